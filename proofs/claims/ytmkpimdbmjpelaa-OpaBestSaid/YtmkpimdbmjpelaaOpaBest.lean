/-
  Layer 38: the walk of OpaBest.
-/
import Derived.Test.YtmkpimdbmjpelaaOpaOrders
import Derived.Test.YtmkpimdbmjpelaaOpaSome
import Derived.Test.YtmkpimdbmjpelaaOpaPut
namespace Go.Proofs.Ytmkpimdbmjpelaa
open Go.RowKit
theorem tasks_own_cap {w : World} {base n : Nat} {e : TypeId} {v : Value} {g : Nat → Nat → Int} (h : w.ownsRow base e 11 v n (cells11 g n)) : ∃ ao cap, v = .slice ao n cap ∧ (n ≤ cap ∧ cap ≤ maxLen) ∧ Tasks w ao n g := by
  obtain ⟨ao, cap, rfl, hT⟩ := tasks_of_own h
  rcases h.2 with ⟨e2, h2⟩ | ⟨gb, cap', cur, e2, _, _, h3, h4, _⟩
  · injection e2 with a1 a2 a3
    subst a3
    exact ⟨ao, _, rfl, ⟨by omega, Nat.zero_le _⟩, hT⟩
  · injection e2 with a1 a2 a3
    subst a3
    exact ⟨ao, _, rfl, ⟨h3, h4⟩, hT⟩
set_option maxRecDepth 100000 in
set_option maxHeartbeats 2000000 in
theorem opaBest_walk (ao : Option Addr) (n cap : Nat) (g : Nat → Nat → Int) (w : World) (hT : Tasks w ao n g) (hm : n ≤ maxLen) (hcap : n ≤ cap ∧ cap ≤ maxLen) :
    Calls Try.prog 3 #[.slice ao n cap] w fun e w' => e = .returned (.bool true) ∧ Below w.heap.size w w' := by
  obtain ⟨i0, hi, hz0, hz1, hz2⟩ := info_parts infoIt
  have HT := hid hT
  have HR := hid (right38_any ao n cap g 6 w hm (by omega) hT)
  have HCAP := hid hcap
  clear hT hm hcap
  go_enter Try.func3, Try.ntmps3
  go_wp2_with fail
  refine HR.out.mono ?_
  rintro e w1 ⟨r, rfl, hr, b1⟩
  have B1 := hid b1
  clear b1 HR
  cases r with
  | false =>
    go_wp2
    go_ret
    exact ⟨rfl, B1.out⟩
  | true =>
    obtain ⟨hn, hG⟩ := hr.1 rfl
    have HG := hid hG
    clear hr hG
    have HOI : Hid ((orderR g n).isSome = true ↔ someP g n (List.range n)) := order_iff n (List.range n) [] (by simp) (fun i hi => HG.out i (List.mem_range.1 hi)) (by omega)
    have HSI : Hid (someB g n (List.range n) = true ↔ someP g n (List.range n)) := someB_iff n (List.range n) (by simp) (fun i hi => HG.out i (List.mem_range.1 hi)) (by omega)
    have HTI : Hid (∀ Q : List Nat, Q.Perm (List.range n) → SortD g Q → (fits38 (othG g Q) n = true ↔ someP g n (List.range n))) := fun Q hp hs => by
      have hl : Q.length = n := by rw [hp.length_eq, List.length_range]
      have hok : ∀ i ∈ Q, OkT (g i) := fun i hi => HG.out i (List.mem_range.1 (hp.subset hi))
      have h1 := fits38_iff (h := g) hok (by omega)
      rw [hl] at h1
      rw [h1, tight_fits n Q hl hok hs]
      exact ⟨someP_perm n hp, someP_perm n hp.symm⟩
    have HOF : Hid (∀ o, orderR g n = some o → o.Perm (List.range n) ∧ fits38 (othG g o) n = true) := fun o ho => by
      obtain ⟨Q, h1, h2, h3⟩ := order_found n (List.range n) [] o (by simp) (fun i hi => HG.out i (List.mem_range.1 hi)) (by omega) ho
      rw [List.append_nil] at h1
      subst h1
      have hl : o.length = n := by rw [h2.length_eq, List.length_range]
      have hok : ∀ i ∈ o, OkT (g i) := fun i hi => HG.out i (List.mem_range.1 (h2.subset hi))
      have h4 := fits38_iff (h := g) hok (by omega)
      rw [hl] at h4
      exact ⟨h2, h4.2 h3⟩
    go_wp2
    go_loopw [3, 4] (fun v i wr => ∃ k : Nat, k ≤ n ∧ i = .int .i64 k ∧ wr.ownsRow w.heap.size 3 1 v k (ints (List.range k)) ∧ Hid (Below w.heap.size w wr)) (fun _ i _ => n - (intOf i).toNat)
    case atStart => exact ⟨0, by omega, rfl, World.ownsRow_nil _ _ _ _, B1⟩
    case round =>
      clear B1
      obtain ⟨k, hk, rfl, hown, HB⟩ := hrel
      by_cases hlt : k < n
      · have t0 : decide ((k : Int) < (n : Int)) = true := by simp; omega
        have hsz := HB.out.size
        go_wp2_with (at_builtin; refine wpList_append_own _ rfl _ _ 24 rfl w.heap.size 3 i0 (.int .i64 0) 1 8 Try.underlying24 hi hz0 hz1 hz2 rfl (by decide) u3 k _ rfl (hown.alloc _) ⟨wr.heap.size, 0, none⟩ 1 1 [.int .i64 (k : Int)] rfl rfl (one_int _ _ _) (by simp [Value.oneCell']) (by unfold maxLen; omega) (by omega) (by simp; omega) ?_; intro v' w1 hown1 hgrow _; have HO1 := hid hown1; have HB1 := hid ((HB.out.alloc hsz _).grown hgrow (by simp; omega) fun j hj => (hown.lt j hj).1); clear hown1 hgrow)
        go_roundw
        case rel => exact ⟨k + 1, by omega, by go_num, by rw [range_snoc]; exact HO1.out, HB1⟩
        case measure => simp [intOf]; omega
      · obtain rfl : k = n := by omega
        have t0 : decide ((k : Int) < (k : Int)) = false := by simp
        have hown2 : wr.ownsRow w.heap.size 3 1 u3 (List.range k).length (ints (List.range k)) := by rw [List.length_range]; exact hown
        have HH := hid (hands_own hown2)
        clear hown hown2
        have tl : ((k : Int) != (k : Int)) = false := by simp
        go_wp2_with fail
        refine (opaOrder_any ao k cap g wr (by omega) (HT.out.below HB.out) HG.out).mono ?_
        rintro e w2 (⟨h0, rfl, b2⟩ | ⟨o, v, h0, rfl, o2, b2⟩)
        · have B2 := hid (HB.out.trans (b2.mono HB.out.size))
          have HSB : Hid (someB g k (List.range k) = false) := by
            show _ = _
            rw [Bool.eq_false_iff]
            intro h
            have := HOI.out.2 (HSI.out.1 h)
            rw [h0] at this
            cases this
          go_wp2_with fail
          refine (some_any ao k cap g (by omega) HG.out k (List.range k) u3 w2 (by simp) (by omega) (HT.out.below B2.out) (Bel.range k) (HH.out.below b2)).mono ?_
          rintro e w3 ⟨rfl, b3⟩
          rw [HSB.out]
          have B3 := hid (B2.out.trans (b3.mono B2.out.size))
          have b3z := hid b3
          clear b3 HH
          go_wp2_with fail
          refine (opaTight_any ao k cap g w3 (by omega) (HT.out.below B3.out)).mono ?_
          rintro e w4 ⟨v, Q, rfl, hQ, hS, o4, b4⟩
          have B4 := hid (B3.out.trans (b4.mono B3.out.size))
          have hl : Q.length = k := by rw [hQ.length_eq, List.length_range]
          have o4' : w4.ownsRow w3.heap.size 3 1 v Q.length (ints Q) := by rw [hl]; exact o4
          obtain ⟨po, pc, e, HPQ⟩ := own_places o4'
          rw [hl] at e
          subst e
          have HFT : Hid (fits38 (othG g Q) k = false) := by
            show _ = _
            rw [Bool.eq_false_iff]
            intro h
            have := HSI.out.2 ((HTI.out Q hQ hS).1 h)
            rw [HSB.out] at this
            cases this
          have HOK : Hid (∀ i, i < k → OkT (othG g Q i)) := by
            have := othG_ok HG.out (P := Q) (n := k) fun i hi => List.mem_range.1 (hQ.subset hi)
            rw [hl] at this; exact this
          have HPT := hid (opaPut_any ao po k cap pc g Q w4 (by omega) hl (HT.out.below B4.out) HPQ.out hQ)
          have b4z := hid b4
          clear o4 o4' b4 hQ hS hl
          go_wp2_with fail
          refine HPT.out.mono ?_
          rintro e w5 ⟨v5, rfl, o5, b5⟩
          have B5 := hid (B4.out.trans (b5.mono B4.out.size))
          obtain ⟨to, tc, rfl, htc, hT5⟩ := tasks_own_cap o5
          have HFI := hid (opaFits_any to k tc (othG g Q) w5 (by omega) htc hT5 HOK.out)
          rw [HFT.out] at HFI
          clear o5 htc hT5 HPT
          go_wp2_with fail
          refine HFI.out.mono ?_
          rintro e w6 ⟨rfl, b6⟩
          have B6 := hid (B5.out.trans (b6.mono B5.out.size))
          have HB46 := hid (b5.trans (b6.mono b5.size))
          clear b6 b5 HFI
          go_wp2_with fail
          refine (opaAlive_any _).mono ?_
          rintro e w9 ⟨rfl, b9⟩
          have B9 := hid (B6.out.trans (b9.mono B6.out.size))
          go_wp2
          go_ret
          exact ⟨rfl, B9.out⟩
        · have B2 := hid (HB.out.trans (b2.mono HB.out.size))
          obtain ⟨hpo, hfo⟩ := HOF.out o h0
          have hlo : o.length = k := by rw [hpo.length_eq, List.length_range]
          obtain ⟨ro, rc, e, HPL⟩ := own_places o2
          rw [hlo] at e
          subst e
          have HOO : Hid (∀ i, i < k → OkT (othG g o i)) := by
            have := othG_ok HG.out (P := o) (n := k) fun i hi => List.mem_range.1 (hpo.subset hi)
            rw [hlo] at this; exact this
          have HFO := hid hfo
          have HPO0 := hid (fun (W : World) (h1 : Tasks W ao k g) (h2 : Places W ro o) => opaPut_any ao ro k cap rc g o W (by omega) hlo h1 h2 hpo)
          clear hpo hfo hlo o2
          have HSB : Hid (someB g k (List.range k) = true) := HSI.out.2 (HOI.out.1 (by rw [h0]; rfl))
          go_wp2_with fail
          refine (some_any ao k cap g (by omega) HG.out k (List.range k) u3 w2 (by simp) (by omega) (HT.out.below B2.out) (Bel.range k) (HH.out.below b2)).mono ?_
          rintro e w3 ⟨rfl, b3⟩
          rw [HSB.out]
          have B3 := hid (B2.out.trans (b3.mono B2.out.size))
          have b3z := hid b3
          clear b3 HH
          go_wp2_with fail
          refine (opaTight_any ao k cap g w3 (by omega) (HT.out.below B3.out)).mono ?_
          rintro e w4 ⟨v, Q, rfl, hQ, hS, o4, b4⟩
          have B4 := hid (B3.out.trans (b4.mono B3.out.size))
          have hl : Q.length = k := by rw [hQ.length_eq, List.length_range]
          have o4' : w4.ownsRow w3.heap.size 3 1 v Q.length (ints Q) := by rw [hl]; exact o4
          obtain ⟨po, pc, e, HPQ⟩ := own_places o4'
          rw [hl] at e
          subst e
          have HFT : Hid (fits38 (othG g Q) k = true) := (HTI.out Q hQ hS).2 (HSI.out.1 HSB.out)
          have HOK : Hid (∀ i, i < k → OkT (othG g Q i)) := by
            have := othG_ok HG.out (P := Q) (n := k) fun i hi => List.mem_range.1 (hQ.subset hi)
            rw [hl] at this; exact this
          have HPT := hid (opaPut_any ao po k cap pc g Q w4 (by omega) hl (HT.out.below B4.out) HPQ.out hQ)
          have b4z := hid b4
          clear o4 o4' b4 hQ hS hl
          go_wp2_with fail
          refine HPT.out.mono ?_
          rintro e w5 ⟨v5, rfl, o5, b5⟩
          have B5 := hid (B4.out.trans (b5.mono B4.out.size))
          obtain ⟨to, tc, rfl, htc, hT5⟩ := tasks_own_cap o5
          have HFI := hid (opaFits_any to k tc (othG g Q) w5 (by omega) htc hT5 HOK.out)
          rw [HFT.out] at HFI
          clear o5 htc hT5 HPT
          go_wp2_with fail
          refine HFI.out.mono ?_
          rintro e w6 ⟨rfl, b6⟩
          have B6 := hid (B5.out.trans (b6.mono B5.out.size))
          have HB46 := hid (b5.trans (b6.mono b5.size))
          clear b6 b5 HFI
          have HPO := hid (HPO0.out w6 (HT.out.below B6.out) (((HPL.out.below b3z.out).below b4z.out).below HB46.out))
          clear HPO0
          go_wp2_with fail
          refine HPO.out.mono ?_
          rintro e w7 ⟨v7, rfl, o7, b7⟩
          have B7 := hid (B6.out.trans (b7.mono B6.out.size))
          obtain ⟨so, sc, rfl, hsc, hT7⟩ := tasks_own_cap o7
          have HFR := hid (refFits38_any so k sc (othG g o) w7 (by omega) hsc hT7 HOO.out)
          rw [HFO.out] at HFR
          clear o7 b7 hsc hT7 HPO
          go_wp2_with fail
          refine HFR.out.mono ?_
          rintro e w8 ⟨rfl, b8⟩
          have B8 := hid (B7.out.trans (b8.mono B7.out.size))
          clear b8 HFR
          go_wp2_with fail
          refine (opaAlive_any _).mono ?_
          rintro e w9 ⟨rfl, b9⟩
          have B9 := hid (B8.out.trans (b9.mono B8.out.size))
          go_wp2
          go_ret
          exact ⟨rfl, B9.out⟩
end Go.Proofs.Ytmkpimdbmjpelaa
