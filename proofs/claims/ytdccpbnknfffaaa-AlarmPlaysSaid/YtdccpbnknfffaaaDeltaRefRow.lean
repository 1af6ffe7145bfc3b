/-
  Contract of the document's layer 23: Row.
-/
import Derived.Test.YtdccpbnknfffaaaDeltaAll
import Derived.Test.YtdccpbnknfffaaaFree
import Derived.Laws.AppendOwnNone
namespace Go.Proofs.Ytdccpbnknfffaaa
open Go.RowKit
theorem tat_news {W : World} {b o : Nat} {r : TL} (h : TAt W (some ⟨b, o, none⟩) r) : ∀ (j : Nat) (u : Value), (cells2 r)[j]? = some u → W.cell? ((⟨b, o, none⟩ : Addr).add j) = some u := fun j u hj => by
  rw [add_off]
  have hjl : j < r.length * 2 := by
    rw [← cells2_length]
    exact (List.getElem?_eq_some_iff.1 hj).1
  obtain ⟨i, hi | hi⟩ : ∃ i, j = i * 2 ∨ j = i * 2 + 1 := ⟨j / 2, by omega⟩
  · subst hi
    obtain ⟨b', o', e, h1, _⟩ := h i (by omega)
    cases e
    rw [(cells2_at (r := r) (i := i) (by omega)).1] at hj
    rw [h1]; exact hj
  · subst hi
    obtain ⟨b', o', e, _, h1⟩ := h i (by omega)
    cases e
    rw [(cells2_at (r := r) (i := i) (by omega)).2] at hj
    rw [← Nat.add_assoc, h1]; exact hj
theorem cells2_one (r : TL) : ∀ u ∈ cells2 r, u.oneCell' = true := fun u hu => by
  obtain ⟨x, _, hx⟩ := List.mem_flatMap.1 hu
  simp at hx
  rcases hx with rfl | rfl <;> rfl
theorem cells2_append (r s : TL) : cells2 (r ++ s) = cells2 r ++ cells2 s := by simp [cells2]
theorem wpList_append_tl {w : World} {ops : Array Oper} {rest : List Oper} {o : Oper} {a : Act} {Q : Exit → Act → World → Prop} (hgd : o.guard = none) (s x : Operand) (ho : o.op = .call { callee := .builtin .append, args := #[s, x], argTypes := #[27, 27] })
    (base : Nat) (v : Value) (ys : TL) (n : Nat) (hn : n = ys.length) (hs : a.eval s = v) (hown : w.ownsRow base 43 2 v n (cells2 ys)) (xo : Option Addr) (xc : Nat) (zs : TL) (m : Nat) (hm : m = zs.length) (hx : a.eval x = .slice xo m xc)
    (hrow : TAt w xo zs) (hnil : xo = none → xc = 0) (hl : n + m ≤ 10000) (hB : base ≤ w.heap.size) (hpl : ∀ p, xo = some p → p = ⟨p.block, p.off, none⟩)
    (h : ∀ v' w', w'.ownsRow base 43 2 v' (ys ++ zs).length (cells2 (ys ++ zs)) → w.grownBy w' v.ownBlock → wpList Try.prog ops Q rest (a.put o.dst v') w') : wpList Try.prog ops Q (o :: rest) a w := by
  obtain ⟨i0, hi, hz0, hz1, hz2⟩ := info_parts infoT2
  subst hn hm
  cases xo with
  | none =>
    have hz : zs = [] := by
      cases zs with
      | nil => rfl
      | cons z zs => obtain ⟨b, o, e, _⟩ := hrow 0 (by simp); cases e
    subst hz
    have hx0 : a.eval x = .slice none 0 0 := by rw [hx, hnil rfl]; rfl
    refine wpList_append_own_none hgd s x _ ho base 43 i0 2 Try.underlying27 hi v ys.length (cells2 ys) hs hown hx0 ?_
    exact h v w (by simpa using hown) ⟨rfl, rfl, rfl, Nat.le_refl _, fun _ _ _ => rfl⟩
  | some p =>
    have hp := hpl p rfl
    rw [hp] at hrow hx
    refine wpList_append_own _ hgd s x _ ho base 43 i0 (.agg #[.int .i64 0, .int .i64 0]) 2 16 Try.underlying27 hi hz0 hz1 hz2 rfl (by decide) v ys.length (cells2 ys) hs hown _ zs.length xc (cells2 zs) hx (cells2_length zs) (tat_news hrow) (cells2_one zs) (by unfold maxLen; omega) (by omega) hB ?_
    intro v' w' h1 h2 _
    exact h v' w' (by rw [List.length_append, cells2_append]; exact h1) h2
theorem tat_take {w : World} {ao : Option Addr} {l : TL} (h : TAt w ao l) (m : Nat) : TAt w ao (l.take m) := fun i hi => by
  rw [List.length_take] at hi
  have e : (l.take m).getD i (0, 0) = l.getD i (0, 0) := by
    rw [List.getD_eq_getElem?_getD, List.getD_eq_getElem?_getD, List.getElem?_take, if_pos (by omega)]
  rw [e]
  exact h i (by omega)
theorem tat_drop {w : World} {b : Nat} {l : TL} (h : TAt w (some ⟨b, 0, none⟩) l) (m : Nat) : TAt w (some ⟨b, m * 2, none⟩) (l.drop m) := fun i hi => by
  rw [List.length_drop] at hi
  have e : (l.drop m).getD i (0, 0) = l.getD (m + i) (0, 0) := by
    rw [List.getD_eq_getElem?_getD, List.getD_eq_getElem?_getD, List.getElem?_drop]
  rw [e]
  obtain ⟨b', o', e', h1, h2⟩ := h (m + i) (by omega)
  cases e'
  refine ⟨b, m * 2, rfl, ?_, ?_⟩
  · rw [show m * 2 + i * 2 = 0 + (m + i) * 2 by omega]; exact h1
  · rw [show m * 2 + i * 2 + 1 = 0 + (m + i) * 2 + 1 by omega]; exact h2
/-- The first of the least. -/
def FirstMin (l : TL) (k mi : Nat) : Prop := mi < l.length ∧ (∀ j, j < mi → (l.getD mi (0, 0)).2 < (l.getD j (0, 0)).2) ∧ ∀ j, j < k → (l.getD mi (0, 0)).2 ≤ (l.getD j (0, 0)).2
theorem FirstMin.step {l : TL} {k mi : Nat} (h : FirstMin l k mi) (hmk : mi < k ∨ mi = 0) (hk : k < l.length) (hlt : (l.getD k (0, 0)).2 < (l.getD mi (0, 0)).2) : FirstMin l (k + 1) k :=
  ⟨hk, fun j hj => Int.lt_of_lt_of_le hlt (h.2.2 j hj), fun j hj => by
    by_cases e : j = k
    · subst e; exact Int.le_refl _
    · exact Int.le_of_lt (Int.lt_of_lt_of_le hlt (h.2.2 j (by omega)))⟩
theorem FirstMin.keep {l : TL} {k mi : Nat} (h : FirstMin l k mi) (hle : (l.getD mi (0, 0)).2 ≤ (l.getD k (0, 0)).2) : FirstMin l (k + 1) mi :=
  ⟨h.1, h.2.1, fun j hj => by
    by_cases e : j = k
    · subst e; exact hle
    · exact h.2.2 j (by omega)⟩
theorem FirstMin.srt {l : TL} {mi : Nat} (h : FirstMin l l.length mi) : srt l = l.getD mi (0, 0) :: srt (l.take mi ++ l.drop (mi + 1)) := by
  have e : l = l.take mi ++ l.getD mi (0, 0) :: l.drop (mi + 1) := by
    have h1 : l.getD mi (0, 0) = l[mi]'h.1 := by simp [h.1]
    rw [h1, ← List.drop_eq_getElem_cons h.1, List.take_append_drop]
  conv => lhs; rw [e]
  refine srt_min (fun x hx => ?_) fun x hx => ?_
  · obtain ⟨j, hj, rfl⟩ := List.getElem_of_mem hx
    rw [List.length_take] at hj
    have := h.2.1 j (by omega)
    rw [List.getElem_take]
    simpa [show j < l.length by omega] using this
  · obtain ⟨j, hj, rfl⟩ := List.getElem_of_mem hx
    rw [List.length_drop] at hj
    have := h.2.2 (mi + 1 + j) (by omega)
    rw [List.getElem_drop]
    simpa [show mi + 1 + j < l.length by omega] using this
theorem flatI_snoc (r : TL) (x : Int × Int) : flatI (r ++ [x]) = flatI r ++ [x.1, x.2] := by simp [flatI]
section
attribute [local go_sem] Oper.quietS Oper.effS effUpon Drawn
set_option maxRecDepth 100000 in
set_option maxHeartbeats 4000000 in
theorem rrow_any (ao : Option Addr) (cap n : Nat) (r : TL) (hrn : r.length = n) (w : World) (hT : TAt w ao r) (hn : n ≤ 64) (hnil : ao = none → cap = 0) (hpl : ∀ p, ao = some p → p = ⟨p.block, p.off, none⟩) :
    Calls Try.prog 18 #[.slice ao n cap] w fun e w' => ∃ u, e = .returned u ∧ w'.ownsRow w.heap.size 3 1 u (flatI (srt r)).length (iv (flatI (srt r))) ∧ Below w.heap.size w w' := by
  obtain ⟨i0, hi, hz0, hz1, hz2⟩ := info_parts infoT2
  obtain ⟨j0, gi, gz0, gz1, gz2⟩ := info_parts infoN
  have HN := hid hrn
  have hT1 := hid (hT.below ((Below.refl w.heap.size w).alloc (Nat.le_refl _) (Obj.cells #[] 43)))
  have ho1 : (w.alloc (Obj.cells #[] 43)).ownsRow w.heap.size 43 2 (.slice (some ⟨w.heap.size, 0, none⟩) 0 0) 0 (cells2 []) := World.ownsRow_made (w := w) #[] 0 (Nat.le_refl _) (Nat.zero_le _) rfl
  have hb1 := (Below.refl w.heap.size w).alloc (Nat.le_refl _) (Obj.cells #[] 43)
  clear hT hrn
  go_enter Try.func18, Try.ntmps18
  go_wp2_with (at_builtin; refine wpList_append_tl rfl _ _ rfl w.heap.size _ [] 0 rfl rfl ho1 ao cap r n HN.out.symm rfl hT1.out hnil (by omega) hb1.size hpl ?_; intro v' w1 hown1 hgrow; rw [List.nil_append] at hown1; have hbw := hid (hb1.grown hgrow hb1.size fun j hj => (ho1.lt j hj).1))
  have hlr : r.length ≤ 64 := by have := HN.out; omega
  clear ho1 hb1 hT1 hgrow hnil hpl
  go_loopw [3, 4] (fun ov rv wr => ∃ (l done : TL), l.length ≤ 64 ∧ done.length + l.length = r.length ∧ Hid (done ++ srt l = srt r) ∧ Hid (wr.ownsRow w.heap.size 43 2 rv l.length (cells2 l)) ∧ Hid (wr.ownsRow w.heap.size 3 1 ov (flatI done).length (iv (flatI done))) ∧ Hid (Below w.heap.size w wr)) (fun _ rv _ => lenV rv)
  case atStart => exact ⟨r, [], hlr, by simp, by show _ = _; rfl, hid hown1, hid (World.ownsRow_nil _ _ _ _), hbw⟩
  case round =>
    clear hown1 hbw
    obtain ⟨l, done, hl64, hd64, HS, HR, HO, HB⟩ := hrel
    obtain ⟨ro, rc, rfl, hTr⟩ := tat_of_own HR.out rfl
    obtain ⟨N, hNN⟩ : ∃ N, l.length = N := ⟨_, rfl⟩
    have HNN := hid hNN
    rw [hNN] at hl64 HR hd64 ⊢
    by_cases hN0 : N = 0
    · subst hN0
      have hl0 : l = [] := List.eq_nil_of_length_eq_zero hNN
      subst hl0
      have HS2 : Hid (done = srt r) := by
        have := HS.out
        rw [show srt ([] : TL) = [] by rfl, List.append_nil] at this
        exact this
      clear hNN HNN HS HR hTr
      go_wp2
      go_ret
      exact ⟨_, rfl, by rw [← HS2.out]; exact HO.out, HB.out⟩
    · have hNp : 0 < N := by omega
      have HT := hid hTr
      clear hTr hNN hN0
      go_wp2
      go_loopw [5, 6] (fun m_ i_ wq => ∃ (mi k : Nat), m_ = .int .i64 mi ∧ i_ = .int .i64 k ∧ k ≤ N ∧ mi < N ∧ (mi < k ∨ mi = 0) ∧ Hid (FirstMin l k mi) ∧ Hid (wq.ownsRow w.heap.size 43 2 (.slice ro N rc) N (cells2 l)) ∧ Hid (wq.ownsRow w.heap.size 3 1 u3 (flatI done).length (iv (flatI done))) ∧ Hid (Below w.heap.size w wq)) (fun _ i_ _ => N - (intOf i_).toNat)
      case atStart => exact ⟨0, 0, rfl, rfl, by omega, hNp, .inr rfl, ⟨by have := HNN.out; omega, fun j hj => by omega, fun j hj => by omega⟩, HR, HO, HB⟩
      case round =>
        clear HR HO HB HT
        obtain ⟨mi, k, rfl, rfl, hk, hmi, hmk, HF, HR, HO, HB⟩ := hrel
        obtain ⟨ro2, rc2, e2, hTr⟩ := tat_of_own HR.out HNN.out.symm
        cases e2
        by_cases hlt : k < N
        · obtain ⟨b, o, rfl, c1, c2⟩ := hTr k (by have := HNN.out; omega)
          obtain ⟨b', o', e, c3, c4⟩ := hTr mi (by have := HNN.out; omega)
          cases e
          have HST := hid (fun h => HF.out.step hmk (by have := HNN.out; omega) h)
          have HKP := hid (fun h => HF.out.keep h)
          generalize (l.getD k (0, 0)).2 = x at c2 HST HKP
          generalize (l.getD mi (0, 0)).2 = y at c4 HST HKP
          have i0' : (0 : Int) ≤ (k : Int) := by omega
          have i1 : (k : Int) < (N : Int) := by omega
          have i2 : (0 : Int) ≤ (mi : Int) := by omega
          have i3 : (mi : Int) < (N : Int) := by omega
          clear c1 c3 hTr
          by_cases hxy : x < y
          · have t1 : decide (x < y) = true := by simpa using hxy
            have HF2 := hid (HST.out hxy)
            clear HST HKP HF
            go_wp2
            go_quiet (fail)
            go_wp2
            go_roundw
            case rel => exact ⟨k, k + 1, rfl, by go_num, by omega, hlt, .inl (by omega), HF2, HR, HO, hid (HB.out.trans ⟨rfl, rfl, rfl, Nat.le_refl _, fun _ _ => rfl⟩)⟩
            case measure => simp [intOf]; omega
          · have t1 : decide (x < y) = false := by simpa using hxy
            have HF2 := hid (HKP.out (by omega))
            clear HST HKP HF
            go_wp2
            go_quiet (fail)
            go_wp2
            go_roundw
            case rel => exact ⟨mi, k + 1, rfl, by go_num, by omega, hmi, .inl (by omega), HF2, HR, HO, hid (HB.out.trans ⟨rfl, rfl, rfl, Nat.le_refl _, fun _ _ => rfl⟩)⟩
            case measure => simp [intOf]; omega
        · obtain rfl : k = N := by omega
          obtain ⟨b, o, rfl, c3, c4⟩ := hTr mi (by have := HNN.out; omega)
          have hbo : b = b ∧ o = 0 ∧ k ≤ rc ∧ rc ≤ maxLen ∧ w.heap.size ≤ b := by
            rcases HR.out.2 with ⟨h, _⟩ | ⟨g, c, cur, h, h1, _, h2, h3, _⟩
            · cases h
            · cases h; exact ⟨rfl, rfl, h2, h3, h1⟩
          obtain ⟨_, rfl, hkc, hcm, hbw⟩ := hbo
          have HM := hid (FirstMin.srt (by have := HF.out; rwa [← HNN.out] at this))
          have HX : Hid (l.length = k ∧ mi < k) := ⟨HNN.out, hmi⟩
          generalize hxx : l.getD mi (0, 0) = x at c3 c4 HM
          obtain ⟨xi, xt⟩ := x
          dsimp only at c3 c4
          rw [Nat.zero_add] at c3 c4
          have HD2 : Hid ((done ++ [(xi, xt)]) ++ srt (l.take mi ++ l.drop (mi + 1)) = srt r) := by
            show _ = _
            rw [List.append_assoc, ← HS.out, HM.out]; rfl
          have hdl : (flatI done).length ≤ 128 := by rw [flat_length]; omega
          have HFL : Hid (iv (flatI (done ++ [(xi, xt)])) = iv (flatI done) ++ [.int .i64 xi, .int .i64 xt]) := by
            show _ = _
            rw [flatI_snoc, iv_append]; rfl
          have HFN : Hid ((flatI (done ++ [(xi, xt)])).length = (flatI done).length + 2) := by
            show _ = _
            rw [flatI_snoc, List.length_append]; rfl
          obtain ⟨Ws, hWs⟩ : ∃ Ws, Ws = two wr (Obj.cells #[Value.int .i64 xi, Value.int .i64 xt] 3) := ⟨_, rfl⟩
          have d0 : ∀ s, (Ws s).cell? ⟨b, mi * 2, none⟩ = some (.int .i64 xi) := fun s => by rw [hWs]; exact cell_two c3 _ _
          have d1 : ∀ s, (Ws s).cell? ⟨b, mi * 2 + 1, none⟩ = some (.int .i64 xt) := fun s => by rw [hWs]; exact cell_two c4 _ _
          have HW := hid hWs
          have i2 : (0 : Int) ≤ (mi : Int) := by omega
          have i3 : (mi : Int) < (k : Int) := by omega
          clear hWs c3 c4 hTr hxx HF HM HS hmk
          generalize hfd : flatI done = fd at HO HFL HFN hdl
          go_wp2
          refine wp_region_stage 12 (Drawn Ws) (by kernel_rfl) (by kernel_rfl) (Drawn.start _ _ (by rw [HW.out]; rfl)) ?_
          simp only [List.take_succ_cons, List.take_zero, List.drop_succ_cons, List.drop_zero]
          repeat (refine wpStg_quiet (by rfl) (by rfl) (fun K hK => ?_); go_simp; (refine hK _ ?_; clear hK K))
          refine wpStg_eff (by rfl) (by rfl) (fun K hK => ?_)
          go_simp
          refine ⟨_, fun n => ⟨rfl, n, by rw [HW.out]; rfl⟩, hK _ ?_⟩
          clear hK K
          refine wpStg_nil ?_
          rintro _ ⟨nq, rfl⟩
          rw [show Ws 1 = wr.alloc _ by rw [HW.out]; rfl, show Ws 0 = wr by rw [HW.out]; rfl]
          obtain ⟨W, hW⟩ : ∃ W, W = (wr.alloc (Obj.cells #[Value.int .i64 xi, Value.int .i64 xt] 3)).drewN nq := ⟨_, rfl⟩
          have hownA : W.ownsRow w.heap.size 3 1 u3 fd.length (iv fd) := by rw [hW]; exact HO.out.alloc _
          have hDA : W.ownsRow w.heap.size 43 2 (.slice (some ⟨b, 0, none⟩) k rc) k (cells2 l) := by rw [hW]; exact HR.out.alloc _
          have hbW : Below w.heap.size w W := by rw [hW]; exact (HB.out.alloc HB.out.size _).trans ⟨rfl, rfl, rfl, Nat.le_refl _, fun _ _ => rfl⟩
          have hnews : ∀ (j : Nat) (u : Value), [Value.int .i64 xi, Value.int .i64 xt][j]? = some u → W.cell? ((⟨wr.heap.size, 0, none⟩ : Addr).add j) = some u := fun j u hj => by
            rw [add_off, hW, Nat.zero_add]
            show (wr.alloc _).cell? _ = _
            rw [World.cell?_alloc_at _ _ _ _ rfl]; simpa using hj
          rw [← hW]
          have hszA := hid hbW.size
          have HNQ := hid (own_neq hDA hownA (by decide))
          clear hW HW d0 d1 Ws HO HR HB
          go_wp2_with (at_builtin; refine wpList_append_own _ rfl _ _ 33 rfl w.heap.size 3 j0 (.int .i64 0) 1 8 Try.underlying33 gi gz0 gz1 gz2 rfl (by decide) u3 fd.length _ rfl hownA ⟨wr.heap.size, 0, none⟩ 2 2 _ rfl (by simp) hnews (by simp [Value.oneCell']) (by unfold maxLen; omega) (by omega) hszA.out ?_; intro v5 w2 hown2 hgrow _; rw [← HFL.out, ← HFN.out] at hown2)
          have hR2 : w2.ownsRow w.heap.size 43 2 (.slice (some ⟨b, 0, none⟩) k rc) k (cells2 l) := own_save hDA (Save.of_grown hgrow) fun g hg e => HNQ.out g hg e
          have hB2 := hbW.grown hgrow hszA.out fun j hj => (hownA.lt j hj).1
          have HO2 := hid hown2
          have HR2 := hid hR2
          have HB2 := hid hB2
          clear hownA hDA hbW hnews hgrow hown2 hR2 hB2 HNQ hszA HFL HFN hfd W
          refine wp_region_free [0, 4, 9, 10] (fun X => Below w2.heap.size w2 X) (by kernel_rfl) (by kernel_rfl) (by exact (Below.refl w2.heap.size w2).trans ⟨rfl, rfl, rfl, Nat.le_refl _, fun _ _ => rfl⟩) ?_
          repeat (first | refine wpFl_chain (by rfl) ?_ | (refine wpFl_still (by rfl) (by rfl) (fun K hK => ?_); go_simp; (refine ⟨_, fun _ _ => rfl, hK _ ?_⟩; clear hK K)))
          go_simp
          refine wpFl_still (by rfl) (by rfl) (fun K hK => ?_)
          go_simp
          refine ⟨.slice (some ⟨b, 0, none⟩) mi rc, fun X hX => ?_, hK _ ?_⟩
          · go_simp
            exact fun h => absurd h (by omega)
          clear hK K
          have hw1 : IntKind.i64.wrap ((mi : Int) + 1) = (mi : Int) + 1 := IntWalk.i64_in _ (by omega)
          repeat (first | refine wpFl_chain (by rfl) ?_ | (refine wpFl_still (by rfl) (by rfl) (fun K hK => ?_); go_simp; (refine ⟨_, fun _ _ => rfl, hK _ ?_⟩; clear hK K)))
          go_simp
          refine wpFl_still (by rfl) (by rfl) (fun K hK => ?_)
          go_simp
          obtain ⟨po, hpo⟩ : ∃ po, (if rc = mi + 1 then 0 else (mi + 1) * 2) = po := ⟨_, rfl⟩
          refine ⟨.slice (some ⟨b, po, none⟩) (k - (mi + 1)) (rc - (mi + 1)), fun X hX => ?_, hK _ ?_⟩
          · go_simp
            rw [if_pos (by omega), ← hpo]
            split <;> rfl
          clear hK K
          repeat refine wpFl_chain (by rfl) ?_
          refine wpFl_nil ?_
          show wpTs _ _ _ _ 4 _ _ _
          have HTK : Hid (∀ X, Below w2.heap.size w2 X → TAt X (some ⟨b, 0, none⟩) (l.take mi)) := fun X hX => by
            obtain ⟨ro3, rc3, e3, h3⟩ := tat_of_own HR2.out HNN.out.symm
            cases e3
            exact tat_take (h3.below hX) mi
          have HDP : Hid (∀ X, Below w2.heap.size w2 X → TAt X (some ⟨b, po, none⟩) (l.drop (mi + 1))) := fun X hX => by
            obtain ⟨ro3, rc3, e3, h3⟩ := tat_of_own HR2.out HNN.out.symm
            cases e3
            by_cases hc : rc = mi + 1
            · intro i hi
              rw [List.length_drop] at hi
              have := HNN.out
              omega
            · rw [if_neg hc] at hpo
              rw [← hpo]
              exact tat_drop (h3.below hX) (mi + 1)
          have HL1 : Hid ((l.take mi).length = mi ∧ (l.drop (mi + 1)).length = k - (mi + 1)) := by
            refine ⟨?_, ?_⟩
            · rw [List.length_take]; have := HNN.out; omega
            · rw [List.length_drop]; have := HNN.out; omega
          have hsz2 := hid HB2.out.size
          refine wpTs_1 (i := 0) (rem1 := [4, 9, 10]) (by kernel_rfl) (by rfl) (by rfl) (fun K hK => ?_)
          go_wp2_with fail
          refine hK _ _ (((Below.refl w2.heap.size w2).alloc (Below.refl w2.heap.size w2).size _).trans ⟨rfl, rfl, rfl, Nat.le_refl _, fun _ _ => rfl⟩) ?_
          clear hK K
          obtain ⟨Y1, hX⟩ : ∃ X, X = (w2.alloc (Obj.cells #[] 43)).drew := ⟨_, rfl⟩
          have by1 : Below w2.heap.size w2 Y1 := by rw [hX]; exact ((Below.refl w2.heap.size w2).alloc (Below.refl w2.heap.size w2).size _).trans ⟨rfl, rfl, rfl, Nat.le_refl _, fun _ _ => rfl⟩
          have eo1 : Y1.ownsRow w2.heap.size 43 2 (.slice (some ⟨w2.heap.size, 0, none⟩) 0 0) 0 (cells2 []) := by rw [hX]; exact World.ownsRow_made (w := w2) #[] 0 (Nat.le_refl _) (Nat.zero_le _) rfl
          rw [← hX]
          clear hX
          refine wpTs_1 (i := 4) (rem1 := [9, 10]) (by kernel_rfl) (by rfl) (by rfl) (fun K hK => ?_)
          refine wpList_append_tl rfl _ _ rfl w2.heap.size (.slice (some ⟨w2.heap.size, 0, none⟩) 0 0) [] 0 rfl rfl eo1 (some ⟨b, 0, none⟩) rc (l.take mi) mi HL1.out.1.symm rfl (HTK.out _ by1) (fun e => by cases e) (by omega) by1.size (fun p hp => by cases hp; rfl) ?_
          intro v3 Y2 ho2 hgrow2
          rw [List.nil_append] at ho2
          have by2 := by1.grown hgrow2 by1.size fun j hj => (eo1.lt j hj).1
          refine hK _ _ by2 ?_
          go_simp
          clear hK K eo1 hgrow2 by1
          refine wpTs_1 (i := 9) (rem1 := [10]) (by kernel_rfl) (by rfl) (by rfl) (fun K hK => ?_)
          refine wpList_append_tl rfl _ _ rfl w2.heap.size v3 (l.take mi) _ rfl rfl ho2 (some ⟨b, po, none⟩) (rc - (mi + 1)) (l.drop (mi + 1)) (k - (mi + 1)) HL1.out.2.symm rfl (HDP.out _ by2) (fun e => by cases e) (by rw [HL1.out.1]; omega) by2.size (fun p hp => by cases hp; rfl) ?_
          intro v4 Y3 ho3 hgrow3
          have by3 := by2.grown hgrow3 by2.size fun j hj => (ho2.lt j hj).1
          refine hK _ _ by3 ?_
          go_simp
          clear hK K ho2 hgrow3 by2
          refine wpTs_1 (i := 10) (rem1 := []) (by kernel_rfl) (by rfl) (by rfl) (fun K hK => ?_)
          go_wp2_with fail
          refine hK _ _ by3 ?_
          clear hK K
          refine wpTs_0 ?_
          have HO3 := hid (own_save HO2.out (Save.of_below by3 (fun _ => False)) fun _ _ h => h)
          have HR3 := hid (own_base ho3 hsz2.out)
          have HB3 := hid (HB2.out.trans (by3.mono hsz2.out))
          go_wp2
          go_roundw
          case rel => exact ⟨l.take mi ++ l.drop (mi + 1), done ++ [(xi, xt)], by rw [List.length_append, HL1.out.1, HL1.out.2]; omega, by rw [List.length_append, List.length_append, HL1.out.1, HL1.out.2]; simp; omega, HD2, HR3, HO3, HB3⟩
          case measure =>
            have h1 := own_len HR3.out
            rw [List.length_append, HL1.out.1, HL1.out.2] at h1
            show lenV v4 < k
            rw [h1]
            omega
end
end Go.Proofs.Ytdccpbnknfffaaa
