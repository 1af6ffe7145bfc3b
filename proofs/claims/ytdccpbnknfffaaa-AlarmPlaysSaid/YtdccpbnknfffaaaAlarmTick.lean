/-
  Layer 48: contract of Tick.
-/
import Derived.Test.YtdccpbnknfffaaaAlarmOps
import Derived.Test.YtdccpbnknfffaaaAlarmLaw
import Derived.Test.YtdccpbnknfffaaaDeltaDueW
import Derived.Test.YtdccpbnknfffaaaFree
namespace Go.Proofs.Ytdccpbnknfffaaa
open Go.RowKit Go.Maps
theorem dueR_wf {r : TL} (h : ∀ x ∈ r, (kI x.1).wf = true) : ∀ i ∈ dueR r, (kI i).wf = true := fun i hi => by
  obtain ⟨x, hx, rfl⟩ := List.mem_map.1 hi
  exact h x (List.mem_filter.1 hx).1
def ATick (base ab gb cb m : Nat) (T : Nat → Prop) (s : ST) (w : World) (e : Ending) (w' : World) : Prop :=
  ∃ v : Value, e = .returned v ∧ w'.ownsRow w.heap.size 3 1 v (dueR s.1).length (iv (dueR s.1)) ∧ AS w' base ab gb cb (m + (dueR s.1).length) T (tickA s).1 (tickA s).2.1 (tickA s).2.2 ∧ AK T base ab w w'
set_option maxRecDepth 100000 in
set_option maxHeartbeats 2000000 in
theorem atick_any (base ab gb cb m : Nat) (T : Nat → Prop) (s : ST) (w : World) (h : AS w base ab gb cb m T s.1 s.2.1 s.2.2) (hR : Rng s) (hm : m ≤ 1000000) (hwf : ∀ x ∈ s.1, (kI x.1).wf = true) (hT : ∀ k, w.heap.size ≤ k → T k) :
    Calls Try.prog 23 #[.pointer (some ⟨ab, 0, none⟩)] w fun e w' => ATick base ab gb cb m T s w e w' := by
  have H := hid h
  have hlt := h.q.lt
  have HR := hid hR
  have HW := hid (dueR_wf hwf)
  have hdl : (dueR s.1).length ≤ 64 := Nat.le_trans dueR_len h.q.len
  have HT : Hid (tickA s = (dueR s.1).foldl stepT (leftR s.1, s.2.1, s.2.2)) := rfl
  have HRL : Hid (∀ l, Rng (List.foldl stepT (leftR s.1, s.2.1, s.2.2) l)) := fun l => Rng.fold (s := (leftR s.1, s.2.1, s.2.2)) ⟨hR.e, hR.c⟩ l
  have HTT := hid hT
  clear h hR hwf hT
  go_enter Try.func23, Try.ntmps23
  go_wp2_with (go_at_call 10; refine (qtickM_any base ab T s.1 _ H.out.q).mono ?_; rintro e w1 ⟨v, rfl, o1, q1, k1, m1⟩; have A1 := hid (H.out.qm q1 m1); have O1 := hid o1; have K1 := hid k1; obtain ⟨ao, ca, rfl, hrow⟩ := own_iv o1 rfl; clear o1 q1 k1 m1 hrow)
  obtain ⟨D, hD⟩ : ∃ D, dueR s.1 = D := ⟨_, rfl⟩
  rw [hD] at HW hdl HT O1 ⊢
  obtain ⟨s0, hs0⟩ : ∃ s0 : ST, (leftR s.1, s.2.1, s.2.2) = s0 := ⟨_, rfl⟩
  have A0 : Hid (AS w1 base ab gb cb m T s0.1 s0.2.1 s0.2.2) := by rw [← hs0]; exact A1.out
  rw [hs0] at HT HRL
  obtain ⟨N, hN⟩ : ∃ N, D.length = N := ⟨_, rfl⟩
  have HN := hid hN
  rw [hN] at hdl O1 ⊢
  clear hs0 A1 hN
  go_loopw [13] (fun i_ wr => ∃ (k : Nat) (z : ST), i_ = .int .i64 k ∧ k ≤ N ∧ Hid ((D.take k).foldl stepT s0 = z) ∧ Hid (AS wr base ab gb cb (m + k) T z.1 z.2.1 z.2.2) ∧ Hid (wr.ownsRow w.heap.size 3 1 (.slice ao N ca) N (iv D)) ∧ Hid (AK T base ab w wr)) (fun i_ _ => N - (intOf i_).toNat)
  case atStart => exact ⟨0, s0, rfl, by omega, rfl, A0, O1, K1⟩
  case round =>
    clear A0 O1 K1
    obtain ⟨k, z, rfl, hk, HZ, HA, HO, HK⟩ := hrel
    by_cases hkl : k < N
    · obtain ⟨ao2, ca2, e2, hrow⟩ := own_iv HO.out HN.out.symm
      cases e2
      obtain ⟨b, o, rfl, hc0⟩ := hrow k hkl
      have hc : wr.cell? ⟨b, o + k, none⟩ = some (.int .i64 (D.getD k 0)) := hc0
      have hkD : k < D.length := by rw [HN.out]; exact hkl
      have hx : (kI (D.getD k 0)).wf = true := by
        rw [List.getD_eq_getElem?_getD, List.getElem?_eq_getElem hkD]
        exact HW.out _ (List.getElem_mem hkD)
      have HZ2 : Hid ((D.take (k + 1)).foldl stepT s0 = stepT z (D.getD k 0)) := by
        show _ = _
        rw [List.take_succ_eq_append_getElem hkD, fold_snoc, HZ.out, List.getD_eq_getElem?_getD, List.getElem?_eq_getElem hkD]; rfl
      have hrg : Rng z := by rw [← HZ.out]; exact HRL.out _
      generalize D.getD k 0 = id at hc hx HZ2
      have c2 := HA.out.c2
      have c3 := HA.out.c3
      obtain ⟨DG, dg1, dg2⟩ := HA.out.g
      have HDG := hid dg2
      have he := hrg.e id
      have hcr := hrg.c id
      have i0' : (0 : Int) ≤ (k : Int) := by omega
      have i1 : (k : Int) < (N : Int) := by omega
      clear hc0 hrow dg2
      by_cases h0 : z.2.1 id = 0
      · have HS : Hid (stepT z id = (z.1, putM z.2.1 id 0, putM z.2.2 id 0)) := if_pos h0
        have H0 := hid h0
        clear h0
        go_wp2_with (first | (at_lookup; refine wpList_lookup_own_int _ rfl _ _ 73 rfl 3 3 .i64 ikeyed Try.underlying73 Try.underlying3 (zeroI _) gb (m + k) DG rfl dg1 _ _ rfl (keyI hx) ?_; intro c hat hwc; have hc1 := (HDG.out id hx).symm.trans hat; have hcz : c = 0 := (by injection hc1 with q1; injection q1 with _ q2; rw [← q2]; exact H0.out); subst hcz; clear hat hwc hc1) | (at_delete; refine wpList_delete_own _ rfl _ _ 73 3 rfl 3 ikeyed Try.underlying73 _ gb (m + k) DG rfl dg1 _ _ rfl (keyI hx) ?_; intro w3 hown1 hturn1; have HT1 := hid (HA.out.turn hturn1.grown (.inl rfl)); have A1 : Hid (AS w3 base ab gb cb (m + k) T z.1 (putM z.2.1 id 0) z.2.2) := ⟨HT1.out.1, HT1.out.2.1, HT1.out.2.2.1, IMap.del HDG.out hown1, HT1.out.2.2.2.2.1 HA.out.ne, HA.out.ne, HA.out.lg, HA.out.lc, HA.out.tg, HA.out.tc⟩; have K1 := hid HT1.out.2.2.2.2.2; have g3 := A1.out.c3; have hk1 := A1.out.k; obtain ⟨D1, e1, e2⟩ := hk1; have HE1 := hid e2; clear HT1 hown1 hturn1 c2 c3 dg1 e2 hc) | (at_delete; refine wpList_delete_own _ rfl _ _ 73 3 rfl 3 ikeyed Try.underlying73 _ cb (m + k) D1 rfl e1 _ _ rfl (keyI hx) ?_; intro w4 hown2 hturn2; have HT2 := hid (A1.out.turn hturn2.grown (.inr rfl)); have A2 : Hid (AS w4 base ab gb cb (m + k) T z.1 (putM z.2.1 id 0) (putM z.2.2 id 0)) := ⟨HT2.out.1, HT2.out.2.1, HT2.out.2.2.1, HT2.out.2.2.2.1 (Ne.symm A1.out.ne), IMap.del HE1.out hown2, A1.out.ne, A1.out.lg, A1.out.lc, A1.out.tg, A1.out.tc⟩; have K2 := hid (K1.out.trans HT2.out.2.2.2.2.2); clear HT2 hown2 hturn2 g3 e1 A1 K1))
        go_roundw
        case rel => exact ⟨k + 1, _, by go_num, by omega, HZ2, by rw [HS.out]; exact hid (A2.out.mono (by omega)), hid (K2.out.r (by decide) hlt.1 HO.out), hid (HK.out.trans K2.out)⟩
        case measure => simp [intOf]; omega
      · have HS : Hid (stepT z id = (addR id (z.2.1 id) z.1, z.2.1, putM z.2.2 id (min (z.2.2 id + 1) 65536))) := if_neg h0
        have hz : (z.2.1 id == 0) = false := by simpa using h0
        go_wp2_with (at_lookup; refine wpList_lookup_own_int _ rfl _ _ 73 rfl 3 3 .i64 ikeyed Try.underlying73 Try.underlying3 (zeroI _) gb (m + k) DG rfl dg1 _ _ rfl (keyI hx) ?_; intro c hat hwc; have hc1 := (HDG.out id hx).symm.trans hat; have hcz : c = z.2.1 id := (by injection hc1 with q1; injection q1 with _ q2; exact q2.symm); subst hcz; clear hat hc1)
        refine wp_region_free [13] (fun X => ∃ n, X = wr.drewN n) (by kernel_rfl) (by kernel_rfl) ⟨1, rfl⟩ ?_
        repeat (first | refine wpFl_chain (by rfl) ?_ | (refine wpFl_still (by rfl) (by rfl) (fun K hK => ?_); go_simp; (refine ⟨_, fun _ _ => rfl, hK _ ?_⟩; clear hK K)))
        refine wpFl_still (by rfl) (by rfl) (fun K hK => ?_)
        go_simp
        refine ⟨.map (some cb), fun X hX => by obtain ⟨nn, rfl⟩ := hX; have c3n : (wr.drewN nn).cell? ⟨ab, 3, none⟩ = some (.map (some cb)) := c3; go_simp, hK _ ?_⟩
        clear hK K
        repeat (first | refine wpFl_chain (by rfl) ?_ | (refine wpFl_still (by rfl) (by rfl) (fun K hK => ?_); go_simp; (refine ⟨_, fun _ _ => rfl, hK _ ?_⟩; clear hK K)))
        refine wpFl_still (by rfl) (by rfl) (fun K hK => ?_)
        go_simp
        refine ⟨.map (some cb), fun X hX => by obtain ⟨nn, rfl⟩ := hX; have c3n : (wr.drewN nn).cell? ⟨ab, 3, none⟩ = some (.map (some cb)) := c3; go_simp, hK _ ?_⟩
        clear hK K
        refine wpFl_still (by rfl) (by rfl) (fun K hK => ?_)
        go_simp
        refine ⟨_, fun _ _ => rfl, hK _ ?_⟩
        clear hK K
        refine wpFl_still (by rfl) (by rfl) (fun K hK => ?_)
        go_simp
        obtain ⟨DC, dc1, dc2⟩ := HA.out.k
        refine ⟨.int .i64 (z.2.2 id), fun X hX => ?_, hK _ ?_⟩
        · obtain ⟨nn, rfl⟩ := hX
          have dcn : (wr.drewN nn).ownsMap Try.prog 3 (plainElem Try.prog 3) cb (m + k) DC := dc1
          obtain ⟨c, hrun, hat, hwc⟩ := dcn.lookup_int ikeyed Try.underlying73 Try.underlying3 (zeroI _) (keyI hx)
          have hc1 := (dc2 id hx).symm.trans hat
          have hcz : c = z.2.2 id := by injection hc1 with q1; injection q1 with _ q2; exact q2.symm
          subst hcz
          go_simp
        refine wpFl_still (by rfl) (by rfl) (fun K hK => ?_)
        go_simp
        refine ⟨.int .i64 (z.2.2 id + 1), fun X _ => ?_, hK _ ?_⟩
        · go_simp
          exact IntWalk.i64_in _ (by omega)
        clear hK K
        refine wpFl_still (by rfl) (by rfl) (fun K hK => ?_)
        go_simp
        refine ⟨.int .i64 (min (z.2.2 id + 1) 65536), fun X _ => ?_, hK _ ?_⟩
        · go_simp
          split <;> omega
        clear hK K
        generalize hmv : min (z.2.2 id + 1) 65536 = mv at HS ⊢
        have hwmv : (Lit.int .i64 mv).wf = true := wf_small (by omega) (by omega)
        refine wpFl_chain (by rfl) ?_
        refine wpFl_nil ?_
        obtain ⟨W, hW⟩ : ∃ W, W = wr.drew := ⟨_, rfl⟩
        have bW : Below wr.heap.size wr W := by rw [hW]; exact ⟨rfl, rfl, rfl, Nat.le_refl _, fun _ _ => rfl⟩
        have AW := hid (HA.out.below bW)
        have KW := hid (HK.out.trans (AK.of_below bW (by have := HA.out.q.lt; omega)))
        have OW := hid (own_save HO.out (Save.of_below bW (fun _ => False)) fun _ _ h => h)
        have dcW : W.ownsMap Try.prog 3 (plainElem Try.prog 3) cb (m + k) DC := by rw [hW]; exact dc1
        have HDC := hid dc2
        rw [← hW]
        clear hW bW dc1 dc2 dg1 hmv hcr hrg c3 HA HK HO
        refine wpTs_last (i := 13) (rem1 := []) (by kernel_rfl) (by rfl) (by rfl) (by kernel_rfl) (fun K hK => ?_)
        refine wpList_mapUpdate_own _ rfl _ _ _ 73 rfl 3 3 ikeyed Try.underlying73 _ cb (m + k) DC rfl dcW (by unfold maxLen; omega) _ _ _ rfl rfl (keyI hx) _ [] (plainElem_int Try.underlying3 hwmv) ?_
        intro w3 hown3 hgrow3
        have HTU := hid (AW.out.turn hgrow3 (.inr rfl))
        have A1 : Hid (AS w3 base ab gb cb (m + k + 1) T z.1 z.2.1 (putM z.2.2 id mv)) := ⟨HTU.out.1, HTU.out.2.1, HTU.out.2.2.1, (HTU.out.2.2.2.1 (Ne.symm AW.out.ne)).mono (by omega), IMap.put HDC.out dcW.isMap hown3, AW.out.ne, AW.out.lg, AW.out.lc, AW.out.tg, AW.out.tc⟩
        have K1 := hid (KW.out.trans HTU.out.2.2.2.2.2)
        have O1 := hid (HTU.out.2.2.2.2.2.r (by decide) hlt.1 OW.out)
        clear HTU hown3 hgrow3 dcW KW OW AW HDC
        go_wp2_with fail
        refine wpTs_0 ?_
        go_wp2_with (go_at_call 13; refine (qaddM_any base ab T z.1 id (z.2.1 id) _ A1.out.q (fun k hk => HTT.out k (Nat.le_trans K1.out.s.size hk))).mono ?_; rintro e w4 ⟨rfl, q4, k4, m4⟩; have A4 := hid (A1.out.qm q4 m4); have K4 := hid (K1.out.trans k4); have O4 := hid (k4.r (by decide) hlt.1 O1.out); clear q4 k4 m4 A1 K1 O1)
        go_roundw
        case rel => exact ⟨k + 1, _, by go_num, by omega, HZ2, by rw [HS.out]; exact A4, O4, K4⟩
        case measure => simp [intOf]; omega
    · obtain rfl : k = N := by omega
      have hz : tickA s = z := by rw [HT.out, ← HZ.out, List.take_of_length_le (by rw [HN.out]; exact Nat.le_refl _)]
      go_wp2
      go_ret
      exact ⟨_, rfl, by rw [hD, HN.out]; exact HO.out, by rw [hD, HN.out, hz]; exact HA.out, HK.out⟩
end Go.Proofs.Ytdccpbnknfffaaa
