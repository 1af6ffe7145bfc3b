/-
  Layer 38: contract of the program's Order.
-/
import Derived.Test.YtmkpimdbmjpelaaOpaRef
import Derived.Scope
namespace Go.Proofs.Ytmkpimdbmjpelaa
open Go.RowKit
/-- Of the others so many have been taken. -/
def cntO (j c : Nat) : Nat := if c ≤ j then c else c - 1
theorem cntO_ne {j c : Nat} (h : c ≠ j) : cntO j (c + 1) = cntO j c + 1 := by
  unfold cntO
  split <;> split <;> omega
theorem cntO_eq (j : Nat) : cntO j (j + 1) = cntO j j := by
  unfold cntO
  rw [if_neg (by omega), if_pos (Nat.le_refl _)]; omega
theorem oth_at {g : Nat → Nat → Int} {L : List Nat} {j c : Nat} (hj : j < L.length) (hc : c < L.length) (h : c ≠ j) : othG g (L.eraseIdx j) (cntO j c) = g (L.getD c 0) := by
  unfold othG
  rw [erase_at hj (by unfold cntO; split <;> omega)]
  unfold cntO
  congr 2
  split <;> split <;> omega
theorem set_range {k : Nat} {xs : List Value} {n : Nat} (h : xs.length = n - k) (hk : k < n) : ∃ ys : List Value, ys.length = n - (k + 1) ∧ (ints (List.range k) ++ xs).set k (.int .i64 (k : Int)) = ints (List.range (k + 1)) ++ ys := by
  cases xs with
  | nil => simp at h; omega
  | cons x ys =>
    refine ⟨ys, by simp only [List.length_cons] at h; omega, ?_⟩
    have hl : (ints (List.range k)).length = k := by rw [ints_length, List.length_range]
    rw [List.set_append_right _ _ (by omega), hl, Nat.sub_self, range_snoc]
    simp
theorem set_out {zs : List Value} {m : Nat} {out : List Nat} {q : Nat} (h : zs.length = m + 1) : ∃ ys : List Value, ys.length = m ∧ (zs ++ ints out).set m (.int .i64 (q : Int)) = ys ++ ints (q :: out) := by
  refine ⟨zs.take m, by rw [List.length_take]; omega, ?_⟩
  rw [List.set_append_left _ _ (by omega)]
  have e1 : zs.set m (.int .i64 (q : Int)) = zs.take m ++ [.int .i64 (q : Int)] := by
    rw [List.set_eq_take_append_cons_drop, if_pos (by omega), List.drop_of_length_le (by omega)]
  rw [e1, List.append_assoc]
  simp [ints]
/-- What is left: a row that is read. -/
def LeftAt (W : World) (v : Value) (m B6 : Nat) (L : List Nat) : Prop := ∃ lb lc, v = .slice (some ⟨lb, 0, none⟩) m lc ∧ m ≤ lc ∧ lc ≤ maxLen ∧ Places W (some ⟨lb, 0, none⟩) L ∧ lb ≠ B6
def lenZ (v : Value) : Nat := (intOf v + 1).toNat
attribute [local go_sem] stillAt
set_option maxRecDepth 100000 in
set_option maxHeartbeats 1000000 in
theorem opaOrder_any (ao : Option Addr) (n ca : Nat) (g : Nat → Nat → Int) (w : World) (hn : n ≤ 10) (hT : Tasks w ao n g) (hG : ∀ i, i < n → OkT (g i)) :
    Calls Try.prog 7 #[.slice ao n ca] w fun e w' => OrdPost g n w e w' := by
  obtain ⟨i0, hi, hz0, hz1, hz2⟩ := info_parts infoIt
  obtain ⟨j0, gi, gz0, gz1, gz2⟩ := info_parts infoTk
  obtain ⟨W5, hmk, hown0, hgr⟩ := run_make_full (P := Try.prog) w w.heap.size 24 3 i0 (.int .i64 0) 1 Try.underlying24 hi hz0 hz1 .i64 .i64 n (by rw [hz2]; omega) (by unfold maxLen; omega) (Nat.le_refl _)
  have hb0 : Below w.heap.size w W5 := (Below.refl w.heap.size w).grown hgr (Nat.le_refl _) (by simp)
  have HT := hid hT
  have HG := hid hG
  have h00 : Hid (∃ xs : List Value, xs.length = n - 0 ∧ W5.ownsRow w.heap.size 3 1 (.slice (some ⟨w.heap.size, 0, none⟩) n n) n (ints (List.range 0) ++ xs)) := ⟨_, by have := hown0.1; rw [this]; omega, hown0⟩
  have HB0 := hid hb0
  clear hT hG hown0 hgr hb0
  go_enter Try.func7, Try.ntmps7
  go_wp2
  refine wp_scope_straight ?_
  go_wp2
  go_loopw [17] (fun i_ wr => ∃ k : Nat, i_ = .int .i64 k ∧ k ≤ n ∧ Hid (∃ xs : List Value, xs.length = n - k ∧ wr.ownsRow w.heap.size 3 1 (.slice (some ⟨w.heap.size, 0, none⟩) n n) n (ints (List.range k) ++ xs)) ∧ Hid (Below w.heap.size w wr)) (fun i_ _ => n - (intOf i_).toNat)
  case atStart => exact ⟨0, rfl, by omega, h00, HB0⟩
  case round =>
    clear h00 HB0 hmk
    obtain ⟨k, rfl, hk, HX, HB⟩ := hrel
    by_cases hlt : k < n
    · obtain ⟨xs, hxl, hown⟩ := HX.out
      have hx : ∃ o, (ints (List.range k) ++ xs)[k]? = some o := ⟨_, List.getElem?_eq_getElem (by rw [hown.1]; omega)⟩
      obtain ⟨o, hx⟩ := hx
      have hcA := (hown.cellAt k (by omega)).trans hx
      have hfA := hown.frozenAt k
      have hst := hown.stored k (.int .i64 (k : Int))
      have t0 : decide ((k : Int) < (n : Int)) = true := by simp; omega
      have HST := hid hst
      have HXL := hid hxl
      clear hx hxl hown HX hst
      go_wp2
      go_roundw
      case rel =>
        obtain ⟨ys, hy1, hy2⟩ := set_range HXL.out hlt
        exact ⟨k + 1, by go_num, hlt, ⟨ys, hy1, by rw [← hy2]; exact HST.out.1⟩, HB.out.grown HST.out.2 HB.out.size (by rintro j hj; simp at hj; omega)⟩
      case measure => simp [intOf]; omega
    · obtain rfl : k = n := by omega
      obtain ⟨W6, hmk, hown0, hgr⟩ := run_make_full (P := Try.prog) wr wr.heap.size 24 3 i0 (.int .i64 0) 1 Try.underlying24 hi hz0 hz1 .i64 .i64 k (by rw [hz2]; omega) (by unfold maxLen; omega) (Nat.le_refl _)
      have hb6 : Below wr.heap.size wr W6 := (Below.refl wr.heap.size wr).grown hgr (Nat.le_refl _) (by simp)
      obtain ⟨xs, hxl, hown⟩ := HX.out
      obtain rfl : xs = [] := List.eq_nil_of_length_eq_zero (by omega)
      rw [List.append_nil] at hown
      have hlw := (hown.lt w.heap.size rfl).2
      have hown6 := own_saveP hown hb6
      obtain ⟨B6, hB6⟩ : ∃ B6, wr.heap.size = B6 := ⟨_, rfl⟩
      have HLA : Hid (LeftAt W6 (.slice (some ⟨w.heap.size, 0, none⟩) k k) k B6 (List.range k)) := ⟨_, _, rfl, Nat.le_refl _, by unfold maxLen; omega, Places.of_own (n := k) (by simp) hown6, by omega⟩
      have HB6 := hid (HB.out.trans (hb6.mono HB.out.size))
      have HZ : Hid (∃ zs : List Value, zs.length = k ∧ W6.ownsRow B6 3 1 (.slice (some ⟨B6, 0, none⟩) k k) k (zs ++ ints [])) := by
        refine ⟨_, ?_, by rw [← hB6]; simpa [ints] using hown0⟩
        have := hown0.1
        simpa using this
      have HR0 : Hid (orderF g k (List.range k) [] = orderR g k) := rfl
      have HL0 : Hid ((List.range k).length = k) := List.length_range
      have HBL := hid (Bel.range k)
      have hwB6 : w.heap.size ≤ B6 := by omega
      clear hown hown6 hown0 hgr hxl HX hlw
      go_wp2
      clear hmk hb6
      refine wp_label ?_
      go_wp2
      go_loopw [4, 7] (fun l_ at_ wq => ∃ (L out : List Nat) (m : Nat), at_ = .int .i64 ((m : Int) - 1) ∧ Hid (L.length = m) ∧ m ≤ k ∧ out.length + m = k ∧ Hid (Bel k L) ∧ Hid (orderF g m L out = orderR g k) ∧ Hid (LeftAt wq l_ m B6 L) ∧ Hid (∃ zs : List Value, zs.length = m ∧ wq.ownsRow B6 3 1 (.slice (some ⟨B6, 0, none⟩) k k) k (zs ++ ints out)) ∧ Hid (Below w.heap.size w wq)) (fun _ at_ _ => lenZ at_)
      case atStart => exact ⟨List.range k, [], k, rfl, HL0, Nat.le_refl _, by simp, HBL, HR0, HLA, HZ, HB6⟩
      case round =>
        clear HL0 HBL HR0 HLA HZ HB6
        obtain ⟨L, out, m, rfl, HL, hmk, hom, HBL, HR, HLA, HZ, HB⟩ := hrel
        obtain ⟨lb, lc, e4, hlc1, hlc2, hPL, hlb⟩ := HLA.out
        subst e4
        by_cases hm0 : m = 0
        · subst hm0
          have HE : Hid (orderR g k = some out) := HR.out.symm
          obtain ⟨zs, hz, hown⟩ := HZ.out
          obtain rfl : zs = [] := List.eq_nil_of_length_eq_zero hz
          have HO : Hid (wr.ownsRow w.heap.size 3 1 (.slice (some ⟨B6, 0, none⟩) k k) out.length (ints out)) := by
            have h1 : out.length = k := by omega
            rw [h1]
            exact own_baseP hown hwB6
          have t0 : decide ((0 : Int) ≤ ((0 : Nat) : Int) - 1) = false := by decide
          clear hz hown HZ HLA hPL
          go_wp2
          simp only [Exit.noGoto]
          go_ret2
          exact .inr ⟨out, _, HE.out, rfl, HO.out, HB.out⟩
        · have hm1 : 0 < m := by omega
          have t0 : decide ((1 : Int) ≤ (m : Int)) = true := by simp; omega
          have HPL := hid hPL
          have HLC : Hid (m ≤ lc ∧ lc ≤ maxLen ∧ lb ≠ B6) := ⟨hlc1, hlc2, hlb⟩
          have HNF : Hid (∀ i, m ≤ i → i < m → fitK g L i = false) := fun i a b => by omega
          clear hPL hlc1 hlc2 hlb HLA hm0
          go_wp2
          go_loopw [4, 8] (fun l_ k_ wt => ∃ j : Nat, k_ = .int .i64 ((j : Int) - 1) ∧ l_ = .slice (some ⟨lb, 0, none⟩) m lc ∧ j ≤ m ∧ Hid (∀ i, j ≤ i → i < m → fitK g L i = false) ∧ Hid (Places wt (some ⟨lb, 0, none⟩) L) ∧ Hid (∃ zs : List Value, zs.length = m ∧ wt.ownsRow B6 3 1 (.slice (some ⟨B6, 0, none⟩) k k) k (zs ++ ints out)) ∧ Hid (Below w.heap.size w wt)) (fun _ k_ _ => lenZ k_)
          case atStart => exact ⟨m, rfl, rfl, Nat.le_refl _, HNF, HPL, HZ, HB⟩
          case round =>
            clear HNF HPL HZ HB
            obtain ⟨j, rfl, rfl, hjm, HNF, HPL, HZ, HB⟩ := hrel
            by_cases hj0 : j = 0
            · subst hj0
              have HE : Hid (orderR g k = none) := by
                show _ = _
                obtain ⟨m', hm'⟩ : ∃ m', m = m' + 1 := ⟨m - 1, by omega⟩
                rw [← HR.out, hm']
                refine order_none ?_
                rw [HL.out]
                exact pickK_none fun i hi => HNF.out i (Nat.zero_le _) hi
              have t1 : decide ((0 : Int) ≤ ((0 : Nat) : Int) - 1) = false := by decide
              go_wp2
              simp only [Exit.noGoto]
              go_ret2
              exact .inl ⟨HE.out, rfl, HB.out⟩
            · obtain ⟨j', rfl⟩ : ∃ j', j = j' + 1 := ⟨j - 1, by omega⟩
              rw [show (((j' + 1 : Nat) : Int) - 1) = (j' : Int) by omega]
              have hjm' : j' < m := by omega
              obtain ⟨Wk, hWk⟩ : ∃ Wk, Wk = wr := ⟨_, rfl⟩
              subst hWk
              have HN0 : Hid (Wk.ownsRow Wk.heap.size 64 11 (.slice none 0 0) (cntO j' 0) (cells11 (othG g (L.eraseIdx j')) (cntO j' 0))) := World.ownsRow_nil _ _ _ _
              have HS0 := hid (Below.refl Wk.heap.size Wk)
              have hjL : j' < L.length := by rw [HL.out]; exact hjm'
              clear hj0
              go_wp2
              go_loopw [9, 42] (fun o_ c_ wu => ∃ c : Nat, c_ = .int .i64 c ∧ c ≤ m ∧ Hid (wu.ownsRow Wk.heap.size 64 11 o_ (cntO j' c) (cells11 (othG g (L.eraseIdx j')) (cntO j' c))) ∧ Hid (Below Wk.heap.size Wk wu)) (fun _ c_ _ => m - (intOf c_).toNat)
              case atStart => exact ⟨0, rfl, by omega, HN0, HS0⟩
              case round =>
                clear HN0 HS0
                obtain ⟨c, rfl, hcm, HO, HS⟩ := hrel
                by_cases hlt : c < m
                · have hcL : c < L.length := by rw [HL.out]; exact hlt
                  have hin := HBL.out.at_ hcL
                  obtain ⟨b', o', e', cL0⟩ := (HPL.out.below HS.out) c hcL
                  cases e'
                  have cL : wr.cell? ⟨lb, c, none⟩ = some (.int .i64 (L.getD c 0 : Nat)) := by
                    have h : wr.cell? ⟨lb, 0 + c, none⟩ = some (.int .i64 (L.getD c 0 : Nat)) := cL0
                    rwa [Nat.zero_add] at h
                  have HOT := hid (fun (h : c ≠ j') => oth_at (g := g) hjL hcL h)
                  obtain ⟨p, hp⟩ : ∃ p, L.getD c 0 = p := ⟨_, rfl⟩
                  rw [hp] at hin cL HOT
                  obtain ⟨b, o, rfl, _⟩ := HT.out.form hin
                  obtain ⟨⟨c0, c1, c2, c3⟩, ⟨c4, c5, c6, c7⟩, c8, c9, c10⟩ := (HT.out.below (HB.out.trans (HS.out.mono HB.out.size))).at_ hin
                  have i0' : (0 : Int) ≤ (c : Int) := by omega
                  have i1 : (c : Int) < (m : Int) := by omega
                  have i2 : (0 : Int) ≤ (p : Int) := by omega
                  have i3 : (p : Int) < (k : Int) := by omega
                  clear cL0 hp
                  by_cases hcj : c = j'
                  · subst hcj
                    have t3 : ((c : Int) != (c : Int)) = false := by simp
                    have HO2 := HO.out
                    rw [← cntO_eq] at HO2
                    have HO3 := hid HO2
                    clear HO2 HOT
                    go_wp2
                    go_roundw
                    case rel => exact ⟨c + 1, by go_num, by omega, HO3, HS⟩
                    case measure => simp [intOf]; omega
                  · have t3 : ((c : Int) != (j' : Int)) = true := by simp; omega
                    have HOT2 := hid (HOT.out hcj)
                    have HC2 := hid (cntO_ne hcj)
                    have hcn : cntO j' c ≤ 10 := by unfold cntO; split <;> omega
                    have hszk := HS.out.size
                    clear HOT
                    generalize cntO j' c = cn at HO HOT2 HC2 hcn
                    go_wp2_with (at_builtin; refine wpList_append_own _ rfl _ _ 22 rfl Wk.heap.size 64 j0 (.agg #[.int .i64 0, .int .i64 0, .int .i64 0, .int .i64 0, .int .i64 0, .int .i64 0, .int .i64 0, .int .i64 0, .int .i64 0, .int .i64 0, .int .i64 0]) 11 88 Try.underlying22 gi gz0 gz1 gz2 rfl (by decide) u9 cn _ rfl (HO.out.alloc _) ⟨wr.heap.size, 0, none⟩ 1 1 (c11 (g p)) rfl rfl (news11 wr (g p) _) (c11_one _) (by unfold maxLen; omega) (by omega) (by simp; omega) ?_; intro v' w1 hown1 hgrow _; have HO1 := hid hown1; have HS1 := hid ((HS.out.alloc hszk _).grown hgrow (by simp; omega) fun j hj => (HO.out.lt j hj).1); clear hown1 hgrow)
                    go_roundw
                    case rel => exact ⟨c + 1, by go_num, by omega, by rw [HC2.out, cells11, HOT2.out]; exact HO1, HS1⟩
                    case measure => simp [intOf]; omega
                · obtain rfl : c = m := by omega
                  -- TAIL
                  have hcn : cntO j' c = c - 1 := by unfold cntO; rw [if_neg (by omega)]
                  rw [hcn] at HO
                  have HLE : Hid ((L.eraseIdx j').length = c - 1) := by show _ = _; rw [List.length_eraseIdx_of_lt hjL, HL.out]
                  have hin := HBL.out.at_ hjL
                  obtain ⟨b', o', e', cL0⟩ := (HPL.out.below HS.out) j' hjL
                  cases e'
                  have cL : wr.cell? ⟨lb, j', none⟩ = some (.int .i64 (L.getD j' 0 : Nat)) := by
                    have h : wr.cell? ⟨lb, 0 + j', none⟩ = some (.int .i64 (L.getD j' 0 : Nat)) := cL0
                    rwa [Nat.zero_add] at h
                  have HFT : Hid (fitK g L j' = lastR (g (L.getD j' 0)) (othG g (L.eraseIdx j')) (c - 1)) := by show _ = _; unfold fitK; rw [HL.out]
                  have HOS : Hid (fitK g L j' = true → ∀ m', c = m' + 1 → orderF g m' (L.eraseIdx j') (L.getD j' 0 :: out) = orderR g k) := fun h m' hm' => by
                    rw [← HR.out, hm']
                    exact (order_some (by rw [HL.out]; exact pickK_at hjm' h fun i a b => HNF.out i (by omega) b)).symm
                  obtain ⟨p, hp⟩ : ∃ p, L.getD j' 0 = p := ⟨_, rfl⟩
                  rw [hp] at hin cL HFT HOS
                  have hOK := HG.out p hin
                  obtain ⟨b, o, rfl, _⟩ := HT.out.form hin
                  obtain ⟨⟨c0, c1, c2, c3⟩, ⟨c4, c5, c6, c7⟩, c8, c9, c10⟩ := (HT.out.below (HB.out.trans (HS.out.mono HB.out.size))).at_ hin
                  obtain ⟨qo, qc, rfl, hT6⟩ := tasks_of_own HO.out
                  have HLA := hid (opaLast_any qo (c - 1) qc (g p) (othG g (L.eraseIdx j')) wr (by omega) hT6 hOK)
                  obtain ⟨ft, hft⟩ : ∃ ft, lastR (g p) (othG g (L.eraseIdx j')) (c - 1) = ft := ⟨_, rfl⟩
                  rw [hft] at HLA HFT
                  have HB1 := hid (HB.out.trans (HS.out.mono HB.out.size))
                  have HPL1 := hid (HPL.out.below HS.out)
                  have HZ1 : Hid (∃ zs : List Value, zs.length = c ∧ wr.ownsRow B6 3 1 (.slice (some ⟨B6, 0, none⟩) k k) k (zs ++ ints out)) := by
                    obtain ⟨zs, h1, h2⟩ := HZ.out
                    exact ⟨zs, h1, own_saveP h2 HS.out⟩
                  have i0' : (0 : Int) ≤ (j' : Int) := by omega
                  have i1 : (j' : Int) < (c : Int) := by omega
                  have i2 : (0 : Int) ≤ (p : Int) := by omega
                  have i3 : (p : Int) < (k : Int) := by omega
                  clear cL0 hp hft hT6 HO hcn HZ HPL HB HS hOK
                  go_wp2_with fail
                  refine HLA.out.mono ?_
                  rintro e w7 ⟨rfl, b7⟩
                  have HB7 := hid (HB1.out.trans (b7.mono HB1.out.size))
                  have HPL7 := hid (HPL1.out.below b7)
                  have HZ7 : Hid (∃ zs : List Value, zs.length = c ∧ w7.ownsRow B6 3 1 (.slice (some ⟨B6, 0, none⟩) k k) k (zs ++ ints out)) := by
                    obtain ⟨zs, h1, h2⟩ := HZ1.out
                    exact ⟨zs, h1, own_saveP h2 b7⟩
                  have cL7 := (b7.cell (cell_lt cL)).trans cL
                  clear cL c0 c1 c2 c3 c4 c5 c6 c7 c8 c9 c10 HLA b7 HB1 HPL1 HZ1
                  cases ft with
                  | false =>
                    have HNF2 : Hid (∀ i, j' ≤ i → i < c → fitK g L i = false) := fun i a b => by
                      rcases (show i = j' ∨ j' + 1 ≤ i by omega) with rfl | h
                      · exact HFT.out
                      · exact HNF.out i h b
                    clear cL7 HOS HFT HNF
                    go_wp2
                    go_roundw
                    case rel => exact ⟨j', by go_num, rfl, by omega, HNF2, HPL7, HZ7, HB7⟩
                    case measure => simp [lenZ, intOf]
                  | true =>
                    obtain ⟨m', hm'⟩ : ∃ m', c = m' + 1 := ⟨c - 1, by omega⟩
                    have HOF := hid (HOS.out HFT.out m' hm')
                    have HM := hid hm'
                    obtain ⟨zs, hzl, hown⟩ := HZ7.out
                    have hx : ∃ o, (zs ++ ints out)[m']? = some o := ⟨_, List.getElem?_eq_getElem (by rw [hown.1]; omega)⟩
                    obtain ⟨ov, hx⟩ := hx
                    have hcA := (hown.cellAt m' (by omega)).trans hx
                    have hfA := hown.frozenAt m'
                    have hst := hown.stored m' (.int .i64 (p : Int))
                    have hat : ((c : Int) - 1) = (m' : Int) := by omega
                    rw [hat]
                    have HHZ := hid hzl
                    have HST := hid hst
                    have HLTL := hid hjL
                    clear hx hst hown hat hzl HZ7 HOS HFT HNF
                    go_wp2
                    obtain ⟨Wc, hWc⟩ : ∃ Wc, Wc = w7.setCell ⟨B6, m', none⟩ (.int .i64 (p : Int)) := ⟨_, rfl⟩
                    have hSTc : Wc.ownsRow B6 3 1 (.slice (some ⟨B6, 0, none⟩) k k) k ((zs ++ ints out).set m' (.int .i64 (p : Int))) := by rw [hWc]; exact HST.out.1
                    have HBc := hid (show Below w.heap.size w Wc by rw [hWc]; exact HB7.out.setCell (p := ⟨B6, m', none⟩) hwB6 _)
                    have HPc : Hid (Places Wc (some ⟨lb, 0, none⟩) L) := fun i hi => by
                      obtain ⟨b2, o2, e2, c2⟩ := HPL7.out i hi
                      cases e2
                      refine ⟨_, _, rfl, ?_⟩
                      rw [hWc]
                      exact (World.cell?_of_block (w := w7) (a := ⟨lb, 0 + i, none⟩) (Below.heap_setCell _ _ _ _ (fun e => HLC.out.2.2 e))).trans c2
                    have HZc : Hid (∃ ys : List Value, ys.length = m' ∧ Wc.ownsRow B6 3 1 (.slice (some ⟨B6, 0, none⟩) k k) k (ys ++ ints (p :: out))) := by
                      obtain ⟨ys, y1, y2⟩ := set_out (out := out) (q := p) (show zs.length = m' + 1 by rw [HHZ.out, HM.out])
                      exact ⟨ys, y1, by rw [← y2]; exact hSTc⟩
                    rw [show w7.setCell ⟨B6, m', none⟩ (.int .i64 (p : Int)) = Wc from hWc.symm]
                    have hml : m' + 1 ≤ lc := by have := HLC.out.1; omega
                    have hmx : lc ≤ maxLen := HLC.out.2.1
                    unfold maxLen at hmx
                    have hjm2 : j' ≤ m' := by omega
                    have hw1 : IntKind.i64.wrap ((j' : Int) + 1) = (j' : Int) + 1 := IntWalk.i64_in _ (by omega)
                    have HEL : Hid ((L.eraseIdx j').length = m') := by show _ = _; rw [HLE.out, HM.out]; omega
                    have HEP := hid (eraseIdx_parts L j')
                    have HLL : Hid (L.length = m' + 1) := by show _ = _; rw [HL.out, HM.out]
                    clear hWc hSTc HST HB7 HPL7 HLE hm' HHZ i3 i2 hin
                    refine wp_region_chain [8, 9] (fun X => Below Wc.heap.size Wc X) (by kernel_rfl) (by kernel_rfl) ⟨rfl, rfl, rfl, Nat.le_refl _, fun _ _ => rfl⟩ ?_
                    repeat (first | refine wpFl_chain (by rfl) ?_ | (refine wpFl_still (by rfl) (by rfl) (fun K hK => ?_); go_simp; (refine ⟨_, fun _ _ => rfl, hK _ ?_⟩; clear hK K)))
                    refine wpFl_still (by rfl) (by rfl) (fun K hK => ?_)
                    go_simp
                    refine ⟨.slice (some ⟨lb, 0, none⟩) j' j', fun X hX => ?_, hK _ ?_⟩
                    · go_simp
                      exact fun h => absurd h (by omega)
                    clear hK K
                    refine wpFl_still (by rfl) (by rfl) (fun K hK => ?_)
                    go_simp
                    refine ⟨_, fun _ _ => rfl, hK _ ?_⟩
                    clear hK K
                    refine wpFl_still (by rfl) (by rfl) (fun K hK => ?_)
                    go_simp
                    refine ⟨_, fun _ _ => rfl, hK _ ?_⟩
                    clear hK K
                    refine wpFl_still (by rfl) (by rfl) (fun K hK => ?_)
                    go_simp
                    refine ⟨_, fun _ _ => rfl, hK _ ?_⟩
                    clear hK K
                    refine wpFl_still (by rfl) (by rfl) (fun K hK => ?_)
                    go_simp
                    obtain ⟨po, hpo⟩ : ∃ po, (if lc = j' + 1 then 0 else j' + 1) = po := ⟨_, rfl⟩
                    refine ⟨.slice (some ⟨lb, po, none⟩) (m' - j') (lc - (j' + 1)), fun X hX => ?_, hK _ ?_⟩
                    · go_simp
                      rw [if_pos (by omega), ← hpo]
                      split <;> rfl
                    clear hK K
                    repeat refine wpFl_chain (by rfl) ?_
                    refine wpFl_nil ?_
                    have bC : Below Wc.heap.size Wc Wc.drew := ⟨rfl, rfl, rfl, Nat.le_refl _, fun _ _ => rfl⟩
                    have HTAKE := hid (news_take (HPc.out.below bC) (k := j') (by rw [HLL.out]; omega))
                    have HBE := hid (HBL.out.erase j')
                    have hm10 : m' ≤ 10 := by have := HM.out; omega
                    have hlbB := HLC.out.2.2
                    have HDROP : Hid (∀ (j : Nat) (u : Value), (ints (L.drop (j' + 1)))[j]? = some u → Wc.drew.cell? ((⟨lb, po, none⟩ : Addr).add j) = some u) := fun j u hj => by
                      rw [← hpo]
                      split
                      · have hjl : j < (ints (L.drop (j' + 1))).length := (List.getElem?_eq_some_iff.1 hj).1
                        rw [ints_length, List.length_drop, HLL.out] at hjl
                        omega
                      · have := news_drop (k := j' + 1) (HPc.out.below bC) j u hj
                        rwa [Nat.zero_add] at this
                    have HBD := hid (HBc.out.trans (bC.mono HBc.out.size))
                    have HB6z : B6 < Wc.heap.size := by
                      obtain ⟨ys, _, y2⟩ := HZc.out
                      exact (y2.lt B6 rfl).2
                    have homx := HM.out
                    clear hpo
                    refine wpTl_on (by rfl) (fun K hK => ?_)
                    by_cases hlast : j' = m'
                    · subst hlast
                      have HLA2 : Hid (LeftAt Wc.drew (.slice (some ⟨lb, 0, none⟩) j' j') j' B6 (L.eraseIdx j')) := by
                        refine ⟨lb, j', rfl, Nat.le_refl _, by unfold maxLen; omega, fun i hi => ?_, hlbB⟩
                        have hi2 : i < j' := by rw [HEL.out] at hi; exact hi
                        obtain ⟨b2, o2, e2, c2⟩ := (HPc.out.below bC) i (by rw [HLL.out]; omega)
                        refine ⟨b2, o2, e2, ?_⟩
                        have e3 := erase_at (i := i) hjL (by rw [HLL.out]; omega)
                        rw [if_pos hi2] at e3
                        show _ = some (Value.int .i64 (((L.eraseIdx j').getD i 0 : Nat) : Int))
                        rw [e3]
                        exact c2
                      refine wpList_append_arg _ rfl _ _ 24 rfl 3 i0 (.int .i64 0) 1 8 Try.underlying24 hi hz0 hz1 hz2 rfl (by decide) lb 0 j' j' (ints (L.take j')) rfl (by rw [ints_length, List.length_take, HLL.out]; omega) (fun j u hj => by have h := HTAKE.out j u hj; rwa [add_off] at h) ⟨lb, po, none⟩ (j' - j') (lc - (j' + 1)) [] rfl (by simp) (fun j u hj => by simp at hj) (fun u hu => by simp at hu) (fun _ j hj => by simp at hj) (by unfold maxLen; omega) (by omega) (fun _ => ?room) (fun h => by omega)
                      case room =>
                        rw [Nat.sub_self, Nat.add_zero]
                        refine hK _ Wc.drew bC ?_
                        go_simp
                        clear hK K
                        refine wpTl_on (by rfl) (fun K hK => ?_)
                        go_wp2_with fail
                        refine hK _ _ bC ?_
                        clear hK K
                        refine wpTl_nil ?_
                        have HZd : Hid (∃ ys : List Value, ys.length = j' ∧ Wc.drew.ownsRow B6 3 1 (.slice (some ⟨B6, 0, none⟩) k k) k (ys ++ ints (p :: out))) := HZc.out
                        go_wp2
                        go_roundw
                        case rel => exact ⟨L.eraseIdx j', p :: out, j', by go_num, HEL, by omega, by simp only [List.length_cons]; omega, HBE, HOF, HLA2, HZd, HBD⟩
                        case measure => simp [lenZ, intOf]; omega
                    · refine wpList_append_grows _ rfl _ _ 24 rfl 3 i0 (.int .i64 0) 1 8 Try.underlying24 hi hz0 hz1 hz2 rfl (by decide) (some ⟨lb, 0, none⟩) j' j' (ints (L.take j')) rfl (fun e => by cases e) (by rw [ints_length, List.length_take, HLL.out]; omega) (fun b hb j u hj => by cases hb; exact HTAKE.out j u hj) ⟨lb, po, none⟩ (m' - j') (lc - (j' + 1)) (ints (L.drop (j' + 1))) rfl (by rw [ints_length, List.length_drop, HLL.out]; omega) HDROP.out (ints_one _) (by omega) (by unfold maxLen; omega) (by omega) ?_
                      intro v4 w4 hown4 hgrow4
                      have b4 := bC.grown hgrow4 bC.size (fun j hj => by cases hj)
                      rw [show j' + (m' - j') = m' by omega, ← ints_append, ← HEP.out] at hown4
                      obtain ⟨gg, cc, rfl, hc1, hc2, hgb⟩ := own_slice hown4 (by omega)
                      have HLA2 : Hid (LeftAt w4 (.slice (some ⟨gg, 0, none⟩) m' cc) m' B6 (L.eraseIdx j')) := ⟨gg, cc, rfl, hc1, hc2, Places.of_own HEL.out hown4, by
                        have : Wc.heap.size ≤ gg := hgb
                        omega⟩
                      have HB4 := hid (HBc.out.trans (b4.mono HBc.out.size))
                      have HZ4 : Hid (∃ ys : List Value, ys.length = m' ∧ w4.ownsRow B6 3 1 (.slice (some ⟨B6, 0, none⟩) k k) k (ys ++ ints (p :: out))) := by
                        obtain ⟨ys, y1, y2⟩ := HZc.out
                        exact ⟨ys, y1, own_saveP y2 b4⟩
                      clear hown4 hgrow4
                      refine hK _ _ b4 ?_
                      go_simp
                      clear hK K
                      refine wpTl_on (by rfl) (fun K hK => ?_)
                      go_wp2_with fail
                      refine hK _ _ b4 ?_
                      clear hK K
                      refine wpTl_nil ?_
                      go_wp2
                      go_roundw
                      case rel => exact ⟨L.eraseIdx j', p :: out, m', by go_num, HEL, by omega, by simp only [List.length_cons]; omega, HBE, HOF, HLA2, HZ4, HB4⟩
                      case measure => simp [lenZ, intOf]; omega
end Go.Proofs.Ytmkpimdbmjpelaa
