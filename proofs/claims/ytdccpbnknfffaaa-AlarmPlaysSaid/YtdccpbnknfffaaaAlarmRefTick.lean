/-
  Layer 48: contract of the law's own tick.
-/
import Derived.Test.YtdccpbnknfffaaaAlarmRef
import Derived.Test.YtdccpbnknfffaaaDeltaOwn
import Derived.Test.YtdccpbnknfffaaaFree
namespace Go.Proofs.Ytdccpbnknfffaaa
open Go.RowKit
theorem addR_len64 {r : TL} (h : r.length ≤ 64) (id t : Int) : (addR id t r).length ≤ 64 := by
  unfold addR
  split
  · rename_i ho
    unfold okR at ho
    rw [Bool.and_eq_true, decide_eq_true_eq, Bool.or_eq_true, decide_eq_true_eq] at ho
    rw [List.length_append]
    show _ + 1 ≤ _
    rcases ho.2 with h1 | h1
    · have := dropR_length (look_isSome.1 h1)
      omega
    · have : (dropR id r).length ≤ r.length := List.length_filter_le _ _
      omega
  · exact h
theorem stepX_r (s : TL × XL) (id : Int) (h : s.1.length ≤ 64) : (stepX s id).1.length ≤ 64 := by
  unfold stepX
  split
  · exact h
  · split
    · exact h
    · exact addR_len64 h _ _
theorem stepX_no {s : TL × XL} {id : Int} (h : posX id s.2 = none) : stepX s id = s := by
  unfold stepX; rw [h]
theorem stepX_off {s : TL × XL} {id : Int} {k : Nat} (h : posX id s.2 = some k) (h0 : (s.2.getD k (0, 0, 0)).2.1 = 0) : stepX s id = (s.1, dropX id s.2) := by
  unfold stepX; rw [h]; exact if_pos h0
theorem stepX_on {s : TL × XL} {id : Int} {k : Nat} (h : posX id s.2 = some k) (h0 : ¬ (s.2.getD k (0, 0, 0)).2.1 = 0) : stepX s id = (addR id (s.2.getD k (0, 0, 0)).2.1 s.1, bumpX k s.2) := by
  unfold stepX; rw [h]; exact if_neg h0
def XTick (B : Nat) (s : TL × XL) (w : World) (e : Ending) (w' : World) : Prop :=
  ∃ v u d, e = .returned (.tuple #[v, u, d]) ∧ w'.ownsRow B 43 2 v (tickX s).1.length (cells2 (tickX s).1) ∧ w'.ownsRow B 63 3 u (tickX s).2.length (cells3 (tickX s).2) ∧ w'.ownsRow w.heap.size 3 1 d (dueR s.1).length (iv (dueR s.1)) ∧ Below w.heap.size w w'
theorem below_of {w : World} {n : Nat} : Below w.heap.size w (w.drewN n) := ⟨rfl, rfl, rfl, Nat.le_refl _, fun _ _ => rfl⟩
theorem own_form3 {w : World} {base : Nat} {e : TypeId} {v : Value} {n : Nat} {xs : List Value} (h : w.ownsRow base e 3 v n xs) (hn : 0 < n) : ∃ g cap, v = .slice (some ⟨g, 0, none⟩) n cap ∧ base ≤ g ∧ g < w.heap.size := by
  rcases h.2 with ⟨_, h2⟩ | ⟨g, cap, cur, rfl, hb, hh, hc, _⟩
  · omega
  · exact ⟨g, cap, rfl, hb, (h.lt g rfl).2⟩
set_option maxRecDepth 100000 in
set_option maxHeartbeats 4000000 in
theorem xtick_any (B : Nat) (v u : Value) (s : TL × XL) (w : World) (hv : w.ownsRow B 43 2 v s.1.length (cells2 s.1)) (hu : w.ownsRow B 63 3 u s.2.length (cells3 s.2)) (hB : B ≤ w.heap.size) (hn : s.1.length ≤ 64) (hb : ∀ x ∈ s.1, 1 ≤ x.2 ∧ x.2 ≤ 65536)
    (hxn : s.2.length ≤ 1000) (C : Int) (hX : XB C s.2) (hC0 : 0 ≤ C) (hC : C ≤ 1000000) :
    Calls Try.prog 29 #[v, u] w fun e w' => XTick B s w e w' := by
  obtain ⟨i0, hi, hz0, hz1, hz2⟩ := info_parts infoX3
  have HV := hid hv
  have HU := hid hu
  have HT := hid (rtick_own B v s.1 w hv hn hb hB)
  have hdl : (dueR s.1).length ≤ 64 := Nat.le_trans dueR_len hn
  have HTX : Hid (tickX s = foldX (leftR s.1, s.2) (dueR s.1)) := rfl
  have HFX : Hid (∀ l : List Int, XB (C + l.length) (foldX (leftR s.1, s.2) l).2 ∧ (foldX (leftR s.1, s.2) l).2.length ≤ 1000 ∧ (foldX (leftR s.1, s.2) l).1.length ≤ 64) := fun l => by
    refine snoc_ind (P := fun l : List Int => XB (C + l.length) (foldX (leftR s.1, s.2) l).2 ∧ (foldX (leftR s.1, s.2) l).2.length ≤ 1000 ∧ (foldX (leftR s.1, s.2) l).1.length ≤ 64) ⟨by simpa [foldX] using hX, hxn, ?_⟩ (fun l x ih => ?_) _ l rfl
    · show (leftR s.1).length ≤ 64
      unfold leftR
      rw [List.length_map]
      exact Nat.le_trans (List.length_filter_le _ _) hn
    · rw [foldX_snoc]
      refine ⟨(ih.1.step x).mono (by simp only [List.length_append, List.length_singleton]; push_cast; omega), Nat.le_trans (stepX_len _ _) ih.2.1, stepX_r _ _ ih.2.2⟩
  clear hv hu hb hX hxn
  go_enter Try.func29, Try.ntmps29
  go_wp2_with fail
  refine HT.out.mono ?_
  rintro e w1 ⟨v1, d, rfl, o1, o2, b1⟩
  have O1 := hid o1
  have O2 := hid o2
  have B1 := hid b1
  have U1 := hid (own_save HU.out (Save.of_below b1 (fun _ => False)) fun _ _ h => h)
  obtain ⟨ao, ca, rfl, hrow⟩ := own_iv o2 rfl
  obtain ⟨D, hD⟩ : ∃ D, dueR s.1 = D := ⟨_, rfl⟩
  rw [hD] at hdl HTX O2 ⊢
  obtain ⟨N, hN⟩ : ∃ N, D.length = N := ⟨_, rfl⟩
  have HN := hid hN
  rw [hN] at hdl O2 ⊢
  obtain ⟨s0, hs0⟩ : ∃ s0 : TL × XL, (leftR s.1, s.2) = s0 := ⟨_, rfl⟩
  have O1' : Hid (w1.ownsRow B 43 2 v1 s0.1.length (cells2 s0.1)) := by rw [← hs0]; exact O1.out
  have U1' : Hid (w1.ownsRow B 63 3 u s0.2.length (cells3 s0.2)) := by rw [← hs0]; exact U1.out
  rw [hs0] at HTX HFX
  have HDD := hid hD
  clear o1 o2 b1 O1 U1 HT hrow hN hs0 hD HV HU
  go_wp2
  go_loopw [1, 7, 9] (fun u_ v_ i_ wr => ∃ (k : Nat) (z : TL × XL), i_ = .int .i64 k ∧ k ≤ N ∧ Hid (foldX s0 (D.take k) = z) ∧ Hid (wr.ownsRow B 43 2 v_ z.1.length (cells2 z.1)) ∧ Hid (wr.ownsRow B 63 3 u_ z.2.length (cells3 z.2)) ∧ Hid (wr.ownsRow w.heap.size 3 1 (.slice ao N ca) N (iv D)) ∧ Hid (Below w.heap.size w wr)) (fun _ _ i_ _ => N - (intOf i_).toNat)
  case atStart => exact ⟨0, s0, rfl, by omega, rfl, O1', U1', O2, B1⟩
  case round =>
    clear O1' U1' O2 B1
    obtain ⟨k, z, rfl, hk, HZ, HR, HE, HO, HB⟩ := hrel
    by_cases hkl : k < N
    · obtain ⟨ao2, ca2, e2, hrow⟩ := own_iv HO.out HN.out.symm
      cases e2
      obtain ⟨b, o, rfl, hc0⟩ := hrow k hkl
      have hc : wr.cell? ⟨b, o + k, none⟩ = some (.int .i64 (D.getD k 0)) := hc0
      have hkD : k < D.length := by rw [HN.out]; exact hkl
      have HZ2 : Hid (foldX s0 (D.take (k + 1)) = stepX z (D.getD k 0)) := by
        show _ = _
        rw [List.take_succ_eq_append_getElem hkD, foldX_snoc, HZ.out, List.getD_eq_getElem?_getD, List.getElem?_eq_getElem hkD]; rfl
      obtain ⟨hxb, hzl, hzr⟩ := HFX.out (D.take k)
      rw [HZ.out] at hxb hzl hzr
      rw [List.length_take, Nat.min_eq_left (by omega)] at hxb
      generalize D.getD k 0 = id at hc HZ2
      have i0' : (0 : Int) ≤ (k : Int) := by omega
      have i1 : (k : Int) < (N : Int) := by omega
      have hszB := HB.out.size
      clear hc0 hrow
      obtain ⟨zl, hzln⟩ : ∃ n, z.2.length = n := ⟨_, rfl⟩
      have HZL := hid hzln
      obtain ⟨xao, xcap, rfl, hXA, hX0⟩ := xat_of_own HE.out rfl
      have HXA := hid hXA
      have HX0 := hid hX0
      have HE2 := hid HE.out
      rw [hzln] at hzl HE2 ⊢
      clear hzln hXA hX0 HE
      have HF := hid (xfind_any xao xcap zl z.2 HZL.out id wr HXA.out hzl)
      cases hp : posX id z.2 with
      | none =>
        have HS := hid (stepX_no hp)
        have hpi : posI id z.2 = -1 := by unfold posI; rw [hp]
        rw [hpi] at HF
        clear hp hpi hxb
        go_wp2_with fail
        refine HF.out.mono ?_
        rintro e w2 ⟨rfl, rfl⟩
        go_wp2
        go_roundw
        case rel => exact ⟨k + 1, _, by go_num, by omega, HZ2, by rw [HS.out]; exact HR, by rw [HS.out, HZL.out]; exact HE2, HO, HB⟩
        case measure => simp [intOf]; omega
      | some p =>
        have hpi : posI id z.2 = (p : Int) := by unfold posI; rw [hp]
        rw [hpi] at HF
        obtain ⟨hpl, hp1, _⟩ := posX_some hp
        obtain ⟨xb, xo, rfl, x1, x2, x3⟩ := HXA.out p hpl
        obtain rfl : xo = 0 := HX0.out xb xo rfl
        rw [Nat.zero_add] at x1 x2 x3
        have hex := hxb.e _ (getD_mem hpl)
        have hcx := hxb.c _ (getD_mem hpl)
        rw [HZL.out] at hpl
        have p0 : (0 : Int) ≤ (p : Int) := by omega
        have p1 : (p : Int) < (zl : Int) := by omega
        have pn : decide ((p : Int) < 0) = false := by simp
        by_cases h0 : (z.2.getD p (0, 0, 0)).2.1 = 0
        · have HS := hid (stepX_off hp h0)
          have t1 : ((z.2.getD p (0, 0, 0)).2.1 == 0) = true := by simpa using h0
          have HDR := hid (xdrop_own B (.slice (some ⟨xb, 0, none⟩) zl xcap) z.2 id wr (by rw [HZL.out]; exact HE2.out) (by rw [HZL.out]; exact hzl) (by omega))
          clear hp h0 hpi hxb x1 x3
          generalize (z.2.getD p (0, 0, 0)).2.1 = ze at x2 t1
          go_wp2_with fail
          refine HF.out.mono ?_
          rintro e w2 ⟨rfl, rfl⟩
          go_wp2_with fail
          refine HDR.out.mono ?_
          rintro e w2 ⟨u2, rfl, ou, bu⟩
          have HR2 := hid (own_save HR.out (Save.of_below bu (fun _ => False)) fun _ _ h => h)
          have HO2 := hid (own_save HO.out (Save.of_below bu (fun _ => False)) fun _ _ h => h)
          have HB2 := hid (HB.out.trans (bu.mono hszB))
          have HU2 := hid ou
          clear ou bu HDR HF
          go_wp2
          go_roundw
          case rel => exact ⟨k + 1, _, by go_num, by omega, HZ2, by rw [HS.out]; exact HR2, by rw [HS.out]; exact HU2, HO2, HB2⟩
          case measure => simp [intOf]; omega
        · have HS := hid (stepX_on hp h0)
          have t1 : ((z.2.getD p (0, 0, 0)).2.1 == 0) = false := by simpa using h0
          have HCB := hid (cells3_bumpX (x := z.2) (k := p) (by rw [HZL.out]; exact hpl))
          have HBL := hid (bump_length p z.2)
          have HC3 := hid (cells3_at (x := z.2) (i := p) (by rw [HZL.out]; exact hpl))
          clear hp h0 hpi hxb
          obtain ⟨Y, hY⟩ : ∃ Y, z.2.getD p (0, 0, 0) = Y := ⟨_, rfl⟩
          rw [hY] at t1 HCB HC3 x1 x2 x3 hex hcx HS
          obtain ⟨yi, ye, yc⟩ := Y
          dsimp only at t1 HCB HC3 x1 x2 x3 hex hcx HS
          clear hY
          go_wp2_with fail
          refine HF.out.mono ?_
          rintro e w2 ⟨rfl, rfl⟩
          have eo := World.ownsRow_made (base := wr.heap.size) (e := 63) (size := 3) (w := wr) #[] 0 (Nat.le_refl _) (Nat.zero_le _) rfl
          have bA0 := (Below.refl wr.heap.size wr).alloc (Nat.le_refl _) (Obj.cells #[] 63)
          have hnews : ∀ (j : Nat) (u : Value), (cells3 z.2)[j]? = some u → (wr.alloc (Obj.cells #[] 63)).cell? ((⟨xb, 0, none⟩ : Addr).add j) = some u := fun j u hj => by
            have hjl : j < zl * 3 := by
              have := (List.getElem?_eq_some_iff.1 hj).1
              rw [cells3_length, HZL.out] at this
              exact this
            have hcell := (HE2.out.cellAt j hjl).trans hj
            rw [add_off, Nat.zero_add]
            exact (bA0.cell (cell_lt hcell)).trans hcell
          have hcl : (cells3 z.2).length = zl * 3 := by rw [cells3_length, HZL.out]
          have hyw : wrap64 (yc + 1) = yc + 1 := by unfold wrap64; omega
          clear x1 x3 HF
          go_wp2_with (at_builtin; refine wpList_append_own _ rfl _ _ 58 rfl wr.heap.size 63 i0 (.agg #[.int .i64 0, .int .i64 0, .int .i64 0]) 3 24 Try.underlying58 hi hz0 hz1 hz2 rfl (by decide) (.slice (some ⟨wr.heap.size, 0, none⟩) 0 0) 0 [] rfl eo ⟨xb, 0, none⟩ zl xcap (cells3 z.2) rfl hcl hnews (cells3_one _) (by unfold maxLen; omega) (by omega) bA0.size ?_; intro v' w3 hown3 hgrow3 _; rw [Nat.zero_add, List.nil_append] at hown3; obtain ⟨g, cp, rfl, hg1, hg2⟩ := own_form3 hown3 (by omega); have b3 := hid (bA0.grown hgrow3 bA0.size fun j hj => (eo.lt j hj).1); have d1 := (hown3.cellAt (p * 3 + 1) (by omega)).trans HC3.out.2.1; have d2 := (hown3.cellAt (p * 3 + 2) (by omega)).trans HC3.out.2.2; have fz := hown3.frozenAt (p * 3 + 2); have O3 := hid hown3; clear hown3 hgrow3 hnews hcl x2)
          obtain ⟨W, hW⟩ : ∃ W, W = w3.setCell ⟨g, p * 3 + 2, none⟩ (.int .i64 (yc + 1)) := ⟨_, rfl⟩
          have BW : Below wr.heap.size wr W := by rw [hW]; exact b3.out.setCell (p := ⟨g, p * 3 + 2, none⟩) hg1 _
          have OW : Hid (W.ownsRow B 63 3 (.slice (some ⟨g, 0, none⟩) zl cp) (bumpX p z.2).length (cells3 (bumpX p z.2))) := by
            show W.ownsRow _ _ _ _ _ _
            rw [hW, HCB.out, HBL.out, HZL.out]
            exact own_base (O3.out.stored _ _).1 (by omega)
          have d1W : W.cell? ⟨g, p * 3 + 1, none⟩ = some (.int .i64 ye) := by rw [hW]; exact (World.cell?_setCell_other _ _ _ _ (by simp)).trans d1
          have hcW := (BW.cell (cell_lt hc)).trans hc
          have HRW := hid (own_save HR.out (Save.of_below BW (fun _ => False)) fun _ _ h => h)
          have HOW := hid (own_save HO.out (Save.of_below BW (fun _ => False)) fun _ _ h => h)
          have HBW := hid (HB.out.trans (BW.mono hszB))
          have HA := hid (radd_any B u7 z.1 id ye)
          have hsW := BW.size
          rw [← hW]
          clear hW b3 d1 d2 fz O3 HR HO HB HE2 HXA HX0 hc eo bA0 HCB HC3
          refine wp_region_free [10, 11, 12, 13, 14] (fun X => Below W.heap.size W X) (by kernel_rfl) (by kernel_rfl) (by exact (Below.refl W.heap.size W).trans ⟨rfl, rfl, rfl, Nat.le_refl _, fun _ _ => rfl⟩) ?_
          repeat (first | refine wpFl_chain (by rfl) ?_ | (refine wpFl_still (by rfl) (by rfl) (fun K hK => ?_); go_simp; (refine ⟨_, fun _ _ => rfl, hK _ ?_⟩; clear hK K)))
          refine wpFl_still (by rfl) (by rfl) (fun K hK => ?_)
          go_simp
          refine ⟨.pointer (some ⟨b, o + k, none⟩), fun X hX => ?_, hK _ ?_⟩
          · go_simp
          clear hK K
          refine wpFl_still (by rfl) (by rfl) (fun K hK => ?_)
          go_simp
          refine ⟨.int .i64 id, fun X hX => ?_, hK _ ?_⟩
          · have hcX := (hX.cell (cell_lt hcW)).trans hcW
            go_simp
          clear hK K
          repeat (first | refine wpFl_chain (by rfl) ?_ | (refine wpFl_still (by rfl) (by rfl) (fun K hK => ?_); go_simp; (refine ⟨_, fun _ _ => rfl, hK _ ?_⟩; clear hK K)))
          refine wpFl_still (by rfl) (by rfl) (fun K hK => ?_)
          go_simp
          refine ⟨.pointer (some ⟨g, p * 3, none⟩), fun X hX => ?_, hK _ ?_⟩
          · go_simp
          clear hK K
          repeat (first | refine wpFl_chain (by rfl) ?_ | (refine wpFl_still (by rfl) (by rfl) (fun K hK => ?_); go_simp; (refine ⟨_, fun _ _ => rfl, hK _ ?_⟩; clear hK K)))
          refine wpFl_still (by rfl) (by rfl) (fun K hK => ?_)
          go_simp
          refine ⟨.int .i64 ye, fun X hX => ?_, hK _ ?_⟩
          · have hcX := (hX.cell (cell_lt d1W)).trans d1W
            go_simp
          clear hK K
          repeat refine wpFl_chain (by rfl) ?_
          refine wpFl_nil ?_
          have bd : Below W.heap.size W W.drew := ⟨rfl, rfl, rfl, Nat.le_refl _, fun _ _ => rfl⟩
          refine wpTs_1 (i := 10) (rem1 := [11, 12, 13, 14]) (by kernel_rfl) (by rfl) (by rfl) (fun K hK => ?_)
          go_wp2_with fail
          refine (HA.out W.drew HRW.out (by show B ≤ W.heap.size; omega) hzr).mono ?_
          rintro e w5 ⟨v5, rfl, o5, b5⟩
          have BX : Below W.heap.size W w5 := bd.trans b5
          have R5 := hid o5
          have E5 := hid (own_save OW.out (Save.of_below BX (fun _ => False)) fun _ _ h => h)
          have O5 := hid (own_save HOW.out (Save.of_below BX (fun _ => False)) fun _ _ h => h)
          have B5 := hid (HBW.out.trans (BX.mono (Nat.le_trans hszB hsW)))
          clear o5 b5 HA HRW HOW HBW OW
          go_wp2_with fail
          refine hK _ _ BX ?_
          clear hK K
          refine wpTs_1 (i := 11) (rem1 := [12, 13, 14]) (by kernel_rfl) (by rfl) (by rfl) (fun K hK => ?_)
          go_wp2_with fail
          refine hK _ _ BX ?_
          clear hK K
          refine wpTs_2 (i := 12) (j := 13) (rem1 := [13, 14]) (rem2 := [12, 14]) (by kernel_rfl) (by rfl) (by rfl) (by rfl) (by rfl) (fun K hK => ?_) (fun K hK => ?_)
          · go_wp2_with fail
            refine hK _ _ BX ?_
            clear hK K
            refine wpTs_2 (i := 13) (j := 14) (rem1 := [14]) (rem2 := [13]) (by kernel_rfl) (by rfl) (by rfl) (by rfl) (by rfl) (fun K hK => ?_) (fun K hK => ?_)
            · go_wp2_with fail
              refine hK _ _ BX ?_
              clear hK K
              refine wpTs_1 (i := 14) (rem1 := []) (by kernel_rfl) (by rfl) (by rfl) (fun K hK => ?_)
              go_wp2_with fail
              refine hK _ _ BX ?_
              clear hK K
              refine wpTs_0 ?_
              go_wp2
              go_roundw
              case rel => exact ⟨k + 1, _, by go_num, by omega, HZ2, by rw [HS.out]; exact R5, by rw [HS.out]; exact E5, O5, B5⟩
              case measure => simp [intOf]; omega
            · go_wp2_with fail
              refine hK _ _ BX ?_
              clear hK K
              refine wpTs_1 (i := 13) (rem1 := []) (by kernel_rfl) (by rfl) (by rfl) (fun K hK => ?_)
              go_wp2_with fail
              refine hK _ _ BX ?_
              clear hK K
              refine wpTs_0 ?_
              go_wp2
              go_roundw
              case rel => exact ⟨k + 1, _, by go_num, by omega, HZ2, by rw [HS.out]; exact R5, by rw [HS.out]; exact E5, O5, B5⟩
              case measure => simp [intOf]; omega
          · go_wp2_with fail
            refine hK _ _ BX ?_
            clear hK K
            refine wpTs_1 (i := 12) (rem1 := [14]) (by kernel_rfl) (by rfl) (by rfl) (fun K hK => ?_)
            go_wp2_with fail
            refine hK _ _ BX ?_
            clear hK K
            refine wpTs_1 (i := 14) (rem1 := []) (by kernel_rfl) (by rfl) (by rfl) (fun K hK => ?_)
            go_wp2_with fail
            refine hK _ _ BX ?_
            clear hK K
            refine wpTs_0 ?_
            go_wp2
            go_roundw
            case rel => exact ⟨k + 1, _, by go_num, by omega, HZ2, by rw [HS.out]; exact R5, by rw [HS.out]; exact E5, O5, B5⟩
            case measure => simp [intOf]; omega
    · obtain rfl : k = N := by omega
      have hz : tickX s = z := by rw [HTX.out, ← HZ.out, List.take_of_length_le (by rw [HN.out]; exact Nat.le_refl _)]
      go_wp2
      go_ret3
      exact ⟨_, _, _, rfl, by rw [hz]; exact HR.out, by rw [hz]; exact HE.out, by rw [HDD.out, HN.out]; exact HO.out, HB.out⟩
end Go.Proofs.Ytdccpbnknfffaaa
