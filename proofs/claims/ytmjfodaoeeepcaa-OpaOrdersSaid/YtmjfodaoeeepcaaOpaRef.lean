/-
  Layer 38: contract of the document's Order.
-/
import Derived.Test.YtmjfodaoeeepcaaOpaWithout
import Derived.Test.YtmjfodaoeeepcaaFree
namespace Go.Proofs.Ytmjfodaoeeepcaa
open Go.RowKit
def lenS : Value → Nat
  | .slice _ n _ => n
  | _ => 0
def foundI : Option Nat → Int
  | none => -1
  | some j => (j : Int)
theorem range_snoc (k : Nat) : ints (List.range (k + 1)) = ints (List.range k) ++ [.int .i64 (k : Int)] := by rw [List.range_succ, ints_append]; rfl
theorem one_int (W : World) (u : Value) (t : TypeId) : ∀ (j : Nat) (x : Value), [u][j]? = some x → (W.alloc (Obj.cells #[u] t)).cell? ((⟨W.heap.size, 0, none⟩ : Addr).add j) = some x := fun j x hj => by
  rw [add_off, Nat.zero_add, World.cell?_alloc_at _ _ _ _ rfl]; simpa using hj
theorem own_slice {w : World} {base n : Nat} {v : Value} {L : List Nat} (h : w.ownsRow base 3 1 v n (ints L)) (hn : 0 < n) : ∃ b cap, v = .slice (some ⟨b, 0, none⟩) n cap ∧ n ≤ cap ∧ cap ≤ maxLen ∧ base ≤ b := by
  rcases h.2 with ⟨_, h2⟩ | ⟨g, cap, cur, rfl, h1, _, h2, h3, _⟩
  · omega
  · exact ⟨g, cap, rfl, h2, h3, h1⟩
theorem own_places {w : World} {base : Nat} {v : Value} {L : List Nat} (h : w.ownsRow base 3 1 v L.length (ints L)) : ∃ ao cap, v = .slice ao L.length cap ∧ Hid (Places w ao L) := by
  rcases h.2 with ⟨e, h2⟩ | ⟨g, cap, cur, e, _⟩
  · have h2 : L.length = 0 := h2
    exact ⟨none, 0, by rw [h2]; exact e, fun i hi => by omega⟩
  · exact ⟨_, cap, e, Places.of_own rfl (by rw [← e]; exact h)⟩
theorem own_saveP {w w' : World} {b n s : Nat} {e : TypeId} {v : Value} {xs : List Value} (h : w.ownsRow b e s v n xs) (hb : Below w.heap.size w w') : w'.ownsRow b e s v n xs := by
  obtain ⟨h1, h2 | ⟨g, cap, cur, rfl, h3, hg, hr⟩⟩ := h
  · exact ⟨h1, .inl h2⟩
  · exact ⟨h1, .inr ⟨g, cap, cur, rfl, h3, (hb.block g (Array.getElem?_eq_some_iff.1 hg).1).trans hg, hr⟩⟩
theorem own_baseP {w : World} {b b' n s : Nat} {e : TypeId} {v : Value} {xs : List Value} (h : w.ownsRow b e s v n xs) (hb : b' ≤ b) : w.ownsRow b' e s v n xs := by
  obtain ⟨h1, h2 | ⟨g, cap, cur, rfl, h3, h4⟩⟩ := h
  · exact ⟨h1, .inl h2⟩
  · exact ⟨h1, .inr ⟨g, cap, cur, rfl, Nat.le_trans hb h3, h4⟩⟩
theorem news_all {w : World} {b o : Nat} {l : List Nat} (h : Places w (some ⟨b, o, none⟩) l) : ∀ (j : Nat) (u : Value), (ints l)[j]? = some u → w.cell? ((⟨b, o, none⟩ : Addr).add j) = some u := fun j u hj => by
  have := news_take h (Nat.le_refl l.length) j u (by rw [List.take_length]; exact hj)
  exact this
theorem Places.below' {w w' : World} {ao : Option Addr} {l : List Nat} (h : Places w ao l) (hb : Below w.heap.size w w') : Places w' ao l := Row.below h hb
theorem othG_ok {g : Nat → Nat → Int} {n : Nat} {P : List Nat} (hG : ∀ i, i < n → OkT (g i)) (hB : Bel n P) : ∀ i, i < P.length → OkT (othG g P i) := fun i hi => hG _ (hB.at_ hi)
def OrdPost (g : Nat → Nat → Int) (n : Nat) (w : World) (e : Ending) (w' : World) : Prop :=
  (orderR g n = none ∧ e = .returned (.tuple #[.slice none 0 0, .bool false]) ∧ Below w.heap.size w w') ∨
  (∃ o v, orderR g n = some o ∧ e = .returned (.tuple #[v, .bool true]) ∧ w'.ownsRow w.heap.size 3 1 v o.length (ints o) ∧ Below w.heap.size w w')
attribute [local go_sem] stillAt
set_option maxRecDepth 100000 in
set_option maxHeartbeats 8000000 in
theorem refOrder_any (ao : Option Addr) (n ca : Nat) (g : Nat → Nat → Int) (w : World) (hn : n ≤ 10) (hT : Tasks w ao n g) (hG : ∀ i, i < n → OkT (g i)) :
    Calls Try.prog 15 #[.slice ao n ca] w fun e w' => OrdPost g n w e w' := by
  obtain ⟨i0, hi, hz0, hz1, hz2⟩ := info_parts infoIt
  have HT := hid hT
  have HG := hid hG
  clear hT hG
  go_enter Try.func15, Try.ntmps15
  go_wp2
  go_loopw [4, 6] (fun v i wr => ∃ k : Nat, k ≤ n ∧ i = .int .i64 k ∧ wr.ownsRow w.heap.size 3 1 v k (ints (List.range k)) ∧ Hid (Below w.heap.size w wr)) (fun _ i _ => n - (intOf i).toNat)
  case atStart => exact ⟨0, by omega, rfl, World.ownsRow_nil _ _ _ _, Below.refl _ _⟩
  case round =>
    obtain ⟨k, hk, rfl, hown, HB⟩ := hrel
    by_cases hlt : k < n
    · have t0 : decide ((k : Int) < (n : Int)) = true := by simp; omega
      have hsz := HB.out.size
      go_wp2_with (at_builtin; refine wpList_append_own _ rfl _ _ 22 rfl w.heap.size 3 i0 (.int .i64 0) 1 8 Try.underlying22 hi hz0 hz1 hz2 rfl (by decide) u4 k _ rfl (hown.alloc _) ⟨wr.heap.size, 0, none⟩ 1 1 [.int .i64 (k : Int)] rfl rfl (one_int _ _ _) (by simp [Value.oneCell']) (by unfold maxLen; omega) (by omega) (by simp; omega) ?_; intro v' w1 hown1 hgrow _; have HO1 := hid hown1; have HB1 := hid ((HB.out.alloc hsz _).grown hgrow (by simp; omega) fun j hj => (hown.lt j hj).1); clear hown1 hgrow)
      go_roundw
      case rel => exact ⟨k + 1, by omega, by go_num, by rw [range_snoc]; exact HO1.out, HB1⟩
      case measure => simp [intOf]; omega
    · obtain rfl : k = n := by omega
      have HW := hid hown
      have HR0 : Hid (orderF g k (List.range k) [] = orderR g k) := rfl
      have HL0 : Hid ((List.range k).length = k) := List.length_range
      have HBL := hid (Bel.range k)
      clear hown
      go_wp2
      go_loopw [4, 5] (fun l_ o_ wq => ∃ (L out : List Nat) (m : Nat), Hid (L.length = m) ∧ m ≤ k ∧ out.length + m = k ∧ Hid (Bel k L) ∧ Hid (orderF g m L out = orderR g k) ∧ Hid (wq.ownsRow w.heap.size 3 1 l_ m (ints L)) ∧ Hid (wq.ownsRow w.heap.size 3 1 o_ out.length (ints out)) ∧ Hid (Below w.heap.size w wq) ∧ lenS l_ = m) (fun l_ _ _ => lenS l_)
      case atStart => exact ⟨List.range k, [], k, HL0, by omega, by simp, HBL, HR0, HW, World.ownsRow_nil _ _ _ _, HB, by
        rcases HW.out.2 with ⟨e, h⟩ | ⟨_, _, _, e, _⟩
        · rw [e]; exact h.symm
        · rw [e]; rfl⟩
      case round =>
        clear HW HB HR0 HL0 HBL
        obtain ⟨L, out, m, HL, hmk, hom, HBL, HR, HW, HO, HB, hls⟩ := hrel
        by_cases hm0 : m = 0
        · subst hm0
          have HE : Hid (orderR g k = some out) := HR.out.symm
          obtain ⟨lao, lcp, rfl⟩ : ∃ a c, u4 = .slice a 0 c := by
            rcases HW.out.2 with ⟨e, h⟩ | ⟨_, c, _, e, _⟩
            · exact ⟨none, 0, e⟩
            · exact ⟨_, c, e⟩
          clear hls
          go_wp2
          go_ret2
          exact .inr ⟨out, _, HE.out, rfl, HO.out, HB.out⟩
        · obtain ⟨lb, lcp, rfl, hc1, hc2, _⟩ := own_slice HW.out (by omega)
          have hm1 : 0 < m := by omega
          have HC : Hid (m ≤ lcp ∧ lcp ≤ maxLen) := ⟨hc1, hc2⟩
          -- L3
          have HPN : Hid (pickK g L 0 = none) := rfl
          clear hc1 hc2 hls hm0
          go_wp2
          go_loopw [7, 8] (fun f_ k_ wq => ∃ (j : Nat) (fo : Option Nat), k_ = .int .i64 j ∧ j ≤ m ∧ f_ = .int .i64 (foundI fo) ∧ Hid (pickK g L j = fo) ∧ Hid (wq.ownsRow w.heap.size 3 1 (.slice (some ⟨lb, 0, none⟩) m lcp) m (ints L)) ∧ Hid (wq.ownsRow w.heap.size 3 1 u5 out.length (ints out)) ∧ Hid (Below w.heap.size w wq)) (fun _ k_ _ => m - (intOf k_).toNat)
          case atStart => exact ⟨0, none, rfl, by omega, rfl, HPN, HW, HO, HB⟩
          case round =>
            clear HW HO HB HPN
            obtain ⟨j, fo, rfl, hjm, rfl, HFO, HW, HO, HB⟩ := hrel
            by_cases hj : j < m
            · have hjL : j < L.length := by rw [HL.out]; exact hj
              have hin := HBL.out.at_ hjL
              have HPL := hid (Places.of_own HL.out HW.out)
              obtain ⟨b', o', e', cL0⟩ := HPL.out j hjL
              cases e'
              have cL : wr.cell? ⟨lb, j, none⟩ = some (.int .i64 (L.getD j 0 : Nat)) := by
                  have h : wr.cell? ⟨lb, 0 + j, none⟩ = some (.int .i64 (L.getD j 0 : Nat)) := cL0
                  rwa [Nat.zero_add] at h
              have HPU := hid (pickK_up g L j)
              rw [HFO.out] at HPU
              have HFT : Hid (fitK g L j = lastR (g (L.getD j 0)) (othG g (L.eraseIdx j)) (m - 1)) := by show _ = _; unfold fitK; rw [HL.out]
              have HLE : Hid ((L.eraseIdx j).length = m - 1) := by show _ = _; rw [List.length_eraseIdx_of_lt hjL, HL.out]
              obtain ⟨p, hp⟩ : ∃ p, L.getD j 0 = p := ⟨_, rfl⟩
              rw [hp] at hin cL HFT
              have hOK := hid (HG.out p hin)
              obtain ⟨b, o, rfl, _⟩ := HT.out.form hin
              obtain ⟨⟨c0, c1, c2, c3⟩, ⟨c4, c5, c6, c7⟩, c8, c9, c10⟩ := (HT.out.below HB.out).at_ hin
              have i0' : (0 : Int) ≤ (j : Int) := by omega
              have i1 : (j : Int) < (m : Int) := by omega
              have i2 : (0 : Int) ≤ (p : Int) := by omega
              have i3 : (p : Int) < (k : Int) := by omega
              have hc1 := HC.out.1
              have hc2 := HC.out.2
              clear cL0 hp hjL
              go_wp2
              refine wp_region_free [10, 11, 12] (fun X => Below wr.heap.size wr X) (by kernel_rfl) (by kernel_rfl) (by exact (Below.refl wr.heap.size wr).trans ⟨rfl, rfl, rfl, Nat.le_refl _, fun _ _ => rfl⟩) ?_
              repeat (first | refine wpFl_chain (by rfl) ?_ | (refine wpFl_still (by rfl) (by rfl) (fun K hK => ?_); go_simp; (refine ⟨_, fun _ _ => rfl, hK _ ?_⟩; clear hK K)))
              refine wpFl_still (by rfl) (by rfl) (fun K hK => ?_)
              go_simp
              refine ⟨.int .i64 (p : Nat), fun X hX => ?_, hK _ ?_⟩
              · have cX := (hX.cell (cell_lt cL)).trans cL
                go_simp
              clear hK K
              repeat (first | refine wpFl_chain (by rfl) ?_ | (refine wpFl_still (by rfl) (by rfl) (fun K hK => ?_); go_simp; (refine ⟨_, fun _ _ => rfl, hK _ ?_⟩; clear hK K)))
              refine wpFl_still (by rfl) (by rfl) (fun K hK => ?_)
              go_simp
              refine ⟨.agg #[.int .i64 (g p 0), .int .i64 (g p 1), .int .i64 (g p 2), .int .i64 (g p 3), .int .i64 (g p 4), .int .i64 (g p 5), .int .i64 (g p 6), .int .i64 (g p 7), .int .i64 (g p 8), .int .i64 (g p 9), .int .i64 (g p 10)], fun X hX => ?_, hK _ ?_⟩
              · have d0 := (hX.cell (cell_lt c0)).trans c0
                have d1 := (hX.cell (cell_lt c1)).trans c1
                have d2 := (hX.cell (cell_lt c2)).trans c2
                have d3 := (hX.cell (cell_lt c3)).trans c3
                have d4 := (hX.cell (cell_lt c4)).trans c4
                have d5 := (hX.cell (cell_lt c5)).trans c5
                have d6 := (hX.cell (cell_lt c6)).trans c6
                have d7 := (hX.cell (cell_lt c7)).trans c7
                have d8 := (hX.cell (cell_lt c8)).trans c8
                have d9 := (hX.cell (cell_lt c9)).trans c9
                have d10 := (hX.cell (cell_lt c10)).trans c10
                go_simp
              clear hK K
              repeat (first | refine wpFl_chain (by rfl) ?_ | (refine wpFl_still (by rfl) (by rfl) (fun K hK => ?_); go_simp; (refine ⟨_, fun _ _ => rfl, hK _ ?_⟩; clear hK K)))
              refine wpFl_nil ?_
              clear c0 c1 c2 c3 c4 c5 c6 c7 c8 c9 c10 cL
              have bd : Below wr.heap.size wr wr.drew := ⟨rfl, rfl, rfl, Nat.le_refl _, fun _ _ => rfl⟩
              refine wpTs_1 (i := 10) (rem1 := [11, 12]) (by kernel_rfl) (by rfl) (by rfl) (fun K hK => ?_)
              go_wp2_with fail
              refine (without_any lb m lcp L j wr.drew HL.out (by omega) hj ⟨hc1, hc2⟩ (HPL.out.below bd)).mono ?_
              rintro e w5 ⟨v5, rfl, o5, b5⟩
              have B5 := bd.trans b5
              obtain ⟨po, pc, rfl, HP5⟩ := own_places o5
              rw [HLE.out] at o5 ⊢
              go_wp2_with fail
              refine hK _ _ B5 ?_
              clear hK K o5
              refine wpTs_1 (i := 11) (rem1 := [12]) (by kernel_rfl) (by rfl) (by rfl) (fun K hK => ?_)
              go_wp2_with fail
              refine (pick_any _ po k (m - 1) ca pc g (L.eraseIdx j) w5 HLE.out (by omega) (HT.out.below (HB.out.trans (B5.mono HB.out.size))) HP5.out (HBL.out.erase j)).mono ?_
              rintro e w6 ⟨v6, rfl, o6, b6⟩
              have B6 := B5.trans (b6.mono B5.size)
              obtain ⟨qo, qc, rfl, hT6⟩ := tasks_of_own o6
              have HT6 := hid hT6
              go_wp2_with fail
              refine hK _ _ B6 ?_
              clear hK K o6 hT6
              refine wpTs_1 (i := 12) (rem1 := []) (by kernel_rfl) (by rfl) (by rfl) (fun K hK => ?_)
              have HLA := hid (refLast_any qo (m - 1) qc (g p) (othG g (L.eraseIdx j)) w6 (by omega) HT6.out (by rw [← HLE.out]; exact othG_ok HG.out (HBL.out.erase j)) hOK.out)
              obtain ⟨ft, hft⟩ : ∃ ft, lastR (g p) (othG g (L.eraseIdx j)) (m - 1) = ft := ⟨_, rfl⟩
              rw [hft] at HLA HFT
              rw [HFT.out] at HPU
              clear hft
              go_wp2_with fail
              refine HLA.out.mono ?_
              rintro e w7 ⟨rfl, b7⟩
              have B7 := B6.trans (b7.mono B6.size)
              have W7 := hid (own_saveP HW.out B7)
              have O7 := hid (own_saveP HO.out B7)
              have BB7 := hid (HB.out.trans (B7.mono HB.out.size))
              go_wp2_with fail
              refine hK _ _ B7 ?_
              clear hK K b7 HLA
              refine wpTs_0 ?_
              cases ft with
              | true =>
                go_wp2
                go_roundw
                case rel => exact ⟨j + 1, some j, by go_num, by omega, rfl, HPU, W7, O7, BB7⟩
                case measure => simp [intOf]; omega
              | false =>
                go_wp2
                go_roundw
                case rel => exact ⟨j + 1, fo, by go_num, by omega, rfl, HPU, W7, O7, BB7⟩
                case measure => simp [intOf]; omega
            · obtain rfl : j = m := by omega
              obtain ⟨m', hm'⟩ : ∃ m', j = m' + 1 := ⟨j - 1, by omega⟩
              cases fo with
              | none =>
                have HE : Hid (orderR g k = none) := by
                  show _ = _
                  rw [← HR.out, hm']
                  refine order_none ?_
                  rw [HL.out]; exact HFO.out
                clear hm'
                go_wp2
                go_ret2
                exact .inl ⟨HE.out, rfl, HB.out⟩
              | some i =>
                obtain ⟨hij, _⟩ := pickK_lt HFO.out
                rw [show foundI (some i) = (i : Int) from rfl]
                have hijL : i < L.length := by rw [HL.out]; exact hij
                obtain ⟨b', o', e', cL0⟩ := (Places.of_own HL.out HW.out) i hijL
                cases e'
                have cL : wr.cell? ⟨lb, i, none⟩ = some (.int .i64 (L.getD i 0 : Nat)) := by
                  have h : wr.cell? ⟨lb, 0 + i, none⟩ = some (.int .i64 (L.getD i 0 : Nat)) := cL0
                  rwa [Nat.zero_add] at h
                have HE : Hid (orderF g m' (L.eraseIdx i) (L.getD i 0 :: out) = orderR g k) := by
                  show _ = _
                  rw [← HR.out, hm']
                  exact (order_some (by rw [HL.out]; exact HFO.out)).symm
                have HLE : Hid ((L.eraseIdx i).length = m') := by show _ = _; rw [List.length_eraseIdx_of_lt hijL, HL.out]; omega
                obtain ⟨q, hq⟩ : ∃ q, L.getD i 0 = q := ⟨_, rfl⟩
                rw [hq] at cL HE
                have i0' : (0 : Int) ≤ (i : Int) := by omega
                have i1 : (i : Int) < (j : Int) := by omega
                have pn : decide ((i : Int) < 0) = false := by simp
                have hc1 := HC.out.1
                have hc2 := HC.out.2
                have hsz := HB.out.size
                have e1 := World.ownsRow_lit (base := wr.heap.size) (e := 3) (size := 1) wr #[.int .i64 (q : Int)] 1 (Nat.le_refl _) (by unfold maxLen; omega) (by simp)
                have hbA := (Below.refl wr.heap.size wr).alloc (Nat.le_refl _) (Obj.cells #[.int .i64 (q : Int)] 3)
                have HHM := hid hm'
                have hol : out.length ≤ 10 := by omega
                have HOA := hid (own_saveP HO.out hbA)
                obtain ⟨po, pc, rfl, HPO⟩ := own_places HO.out
                have HFIN : Hid (∀ (v1 : Value) (w1 : World), w1.ownsRow wr.heap.size 3 1 v1 (q :: out).length (ints (q :: out)) → Below wr.heap.size wr w1 → Calls Try.prog 46 #[.slice (some ⟨lb, 0, none⟩) j lcp, .int .i64 i] w1 fun e w' => ∃ v, e = .returned v ∧ Hid (w'.ownsRow w.heap.size 3 1 v m' (ints (L.eraseIdx i))) ∧ Hid (w'.ownsRow w.heap.size 3 1 v1 (q :: out).length (ints (q :: out))) ∧ Hid (Below w.heap.size w w') ∧ lenS v = m') := fun v1 w1 h1 h2 => by
                  refine (without_any lb j lcp L i w1 HL.out (by omega) hij ⟨hc1, hc2⟩ (Places.of_own HL.out (own_saveP HW.out h2))).mono ?_
                  rintro e w2 ⟨v2, rfl, o2, b2⟩
                  rw [HLE.out] at o2
                  refine ⟨v2, rfl, own_baseP o2 (Nat.le_trans hsz h2.size), own_baseP (own_saveP h1 b2) hsz, HB.out.trans ((h2.trans (b2.mono h2.size)).mono hsz), ?_⟩
                  rcases o2.2 with ⟨e, h⟩ | ⟨_, _, _, e, _⟩
                  · rw [e]; exact h.symm
                  · rw [e]; rfl
                have hgl : m' < j := by omega
                have HBE := hid (HBL.out.erase i)
                clear cL0 hq hijL hm' HW HO HB HR HFO HL
                rcases HOA.out.2 with ⟨e, h0⟩ | ⟨gg, cap', cur, e, _⟩
                · have ho0 : out = [] := List.eq_nil_of_length_eq_zero h0
                  have hpo : po = none := by injection e
                  have hpc : pc = 0 := by injection e
                  subst ho0 hpo hpc
                  clear e h0
                  go_wp2_with (at_builtin; refine wpList_append_own_none rfl _ _ 22 rfl wr.heap.size 3 i0 1 Try.underlying22 hi (.slice (some ⟨wr.heap.size, 0, none⟩) 1 1) 1 _ rfl e1 rfl ?_)
                  go_wp2_with fail
                  refine (HFIN.out _ _ e1 hbA).mono ?_
                  rintro e w2 ⟨v2, rfl, W2, O2, B2, hl2⟩
                  go_wp2
                  go_roundw
                  case rel => exact ⟨L.eraseIdx i, [q], m', HLE, by omega, by have := HHM.out; simp only [List.length_singleton, List.length_nil] at hom ⊢; omega, HBE, HE, W2, O2, B2, hl2⟩
                  case measure => show lenS v2 < j; omega
                · have hpo : po = some ⟨gg, 0, none⟩ := by injection e
                  subst hpo
                  clear e
                  go_wp2_with (at_builtin; refine wpList_append_pl rfl _ _ rfl wr.heap.size (.slice (some ⟨wr.heap.size, 0, none⟩) 1 1) 1 [q] rfl rfl e1 ⟨gg, 0, none⟩ out.length pc out rfl rfl (news_all (HPO.out.below hbA)) (by omega) hbA.size ?_; intro v1 w1 hown1 hgrow1; have hb1 := hid (hbA.grown hgrow1 hbA.size fun j hj => (e1.lt j hj).1); have ho1 := hid hown1; clear hown1 hgrow1)
                  go_wp2_with fail
                  refine (HFIN.out _ _ ho1.out hb1.out).mono ?_
                  rintro e w2 ⟨v2, rfl, W2, O2, B2, hl2⟩
                  go_wp2
                  go_roundw
                  case rel => exact ⟨L.eraseIdx i, q :: out, m', HLE, by omega, by have := HHM.out; simp only [List.length_cons] at hom ⊢; omega, HBE, HE, W2, O2, B2, hl2⟩
                  case measure => show lenS v2 < j; omega
end Go.Proofs.Ytmjfodaoeeepcaa
