/-
  Contract of the document's Unpack; the walk of RlePacks.
-/
import Derived.Test.YtgelgpcpllmnkaaRleOpen
namespace Go.Proofs.Ytgelgpcpllmnkaa
open Go.RowKit Go.Shelf
theorem openPost_none {f : Nat → Int} {n most : Nat} {w w' : World} {e : Ending} (h : openR f n most n 0 [] = none) (hp : OpenPost f n most w e w') : e = .returned (.tuple #[.slice none 0 0, .bool false]) ∧ Below w.heap.size w w' := by
  unfold OpenPost at hp; rw [h] at hp; exact hp
theorem openPost_some {f : Nat → Int} {n most : Nat} {w w' : World} {e : Ending} {out : List Int} (h : openR f n most n 0 [] = some out) (hp : OpenPost f n most w e w') : ∃ v, e = .returned (.tuple #[v, .bool true]) ∧ w'.ownsRow w.heap.size 72 1 v out.length (u32L out) ∧ Below w.heap.size w w' := by
  unfold OpenPost at hp; rw [h] at hp; exact hp
theorem ref_none {f : Nat → Int} {n most : Nat} (h : openR f n most n 0 [] = none) : unpackF f n most = none := by
  rw [← unpackR_is]; unfold unpackR; rw [h]; rfl
theorem ref_bad {f : Nat → Int} {n most : Nat} {out : List Int} (h : openR f n most n 0 [] = some out) (hne : packL out ≠ (List.range n).map f) : unpackF f n most = none := by
  rw [← unpackR_is]; unfold unpackR; rw [h]; simp [Option.filter, hne]
theorem ref_good {f : Nat → Int} {n most : Nat} {out : List Int} (h : openR f n most n 0 [] = some out) (he : packL out = (List.range n).map f) : unpackF f n most = some out := by
  rw [← unpackR_is]; unfold unpackR; rw [h]; simp [Option.filter, he]
set_option maxRecDepth 100000 in
set_option maxHeartbeats 4000000 in
theorem refUnpack_any (ao : Option Addr) (n c most : Nat) (f : Nat → Int) (w : World) (hrow : Row w ao n (fun j => .int .u32 (f j))) (hf : ∀ i, i < n → 0 ≤ f i ∧ f i < 4294967296) (hn : n ≤ 100000) (hc : n ≤ c) (hcm : c ≤ maxLen) (hmost : most ≤ 20000) :
    Calls Try.prog 41 #[.int .i64 most, .slice ao n c] w fun e w' => UnpackPost f n most w e w' := by
  have HO := hid (open_any ao n c most f w hrow hf hn hc hcm hmost)
  rcases hR : openR f n most n 0 [] with _ | out
  · have HB := hid (ref_none hR)
    have HR := hid hR
    clear hR
    go_enter Try.func41, Try.ntmps41
    go_wp2_with fail
    refine HO.out.mono ?_
    intro e w1 hpost
    obtain ⟨rfl, hb1⟩ := openPost_none HR.out hpost
    go_wp2_with fail
    refine (refPack_any none 0 0 f w1 (fun i hi => by omega) (by omega) (Nat.le_refl _) (Nat.zero_le _)).mono ?_
    rintro e w2 ⟨v, rfl, hp, hb2⟩
    obtain ⟨pa, pc, rfl, _, _, _⟩ := own_view hp
    go_wp2_with fail
    go_ret2
    exact unpackPost_bad HB.out rfl (hb1.trans (hb2.mono hb1.size))
  · have HR := hid hR
    have hol : out.length ≤ most := openR_len _ _ _ _ (Nat.zero_le _) hR
    clear hR
    obtain ⟨P, hPe⟩ : ∃ P, packF (fun i => out.getD i 0) out.length = P := ⟨_, rfl⟩
    have HPe := hid (show packL out = P from hPe)
    have HPL := packF_short (fun i => out.getD i 0) out.length
    rw [hPe] at HPL
    have HP : Hid (∀ av ac W, Row W av out.length (fun i => .int .u32 (out.getD i 0)) → out.length ≤ ac → ac ≤ maxLen → Calls Try.prog 43 #[.slice av out.length ac] W fun e w' => ∃ v, e = .returned v ∧ w'.ownsRow W.heap.size 72 1 v P.length (u32L P) ∧ Below W.heap.size W w') := fun av ac W h1 h2 h3 => by
      have := refPack_any av out.length ac (fun i => out.getD i 0) W h1 (by omega) h2 h3
      rw [hPe] at this
      exact this
    clear hPe
    go_enter Try.func41, Try.ntmps41
    go_wp2_with fail
    refine HO.out.mono ?_
    intro e w1 hpost
    obtain ⟨ov, rfl, hown, hb1⟩ := openPost_some HR.out hpost
    clear HO hpost
    obtain ⟨av, ac, rfl, hac, hacm, hra⟩ := own_view hown
    go_wp2_with fail
    refine (HP.out av ac w1 hra hac hacm).mono ?_
    rintro e w2 ⟨pv, rfl, hp, hb2⟩
    obtain ⟨pa, pc, rfl, hpc, hpm, hpr⟩ := own_view hp
    have b2 := hb1.trans (hb2.mono hb1.size)
    have hown2 : w2.ownsRow w.heap.size 72 1 (.slice av out.length ac) out.length (u32L out) := hown.kept (grown_below hb2) (row_any _)
    by_cases hpl : P.length = n
    · have t1 : ((P.length : Int) != (n : Int)) = false := by simp [hpl]
      go_wp2_with fail
      go_loopw [9] (fun i_ wr => ∃ i : Nat, i_ = .int .i64 i ∧ i ≤ n ∧ Hid (∀ j, j < i → P.getD j 0 = f j) ∧ Below w2.heap.size w2 wr) (fun i_ _ => n - (intOf i_).toNat)
      case atStart => exact ⟨0, rfl, Nat.zero_le _, fun j hj => by omega, Below.refl _ _⟩
      case round =>
        obtain ⟨i, rfl, hik, HS, hbq⟩ := hrel
        have hby := b2.trans (hbq.mono b2.size)
        rcases Nat.lt_or_ge i n with hi1 | hi1
        · have t2 : decide ((i : Int) < (n : Int)) = true := by simp; omega
          obtain ⟨b, o, rfl, hc10⟩ := (hrow.below hby) i hi1
          have hc1 : wr.cell? ⟨b, o + i, none⟩ = some (.int .u32 (f i)) := hc10
          clear hc10
          obtain ⟨b2, o2, rfl, hc20⟩ := (hpr.below hbq) i (by omega)
          have hc2 : wr.cell? ⟨b2, o2 + i, none⟩ = some (.int .u32 (P.getD i 0)) := hc20
          clear hc20
          obtain ⟨y, hy⟩ : ∃ y, P.getD i 0 = y := ⟨_, rfl⟩
          rw [hy] at hc2
          have HY := hid hy
          clear hy
          cases h3 : (y == f i)
          · have HB := hid (show unpackF f n most = none from ref_bad HR.out fun e => by
              rw [HPe.out] at e
              have h4 : y ≠ f i := by simpa using h3
              exact h4 (by rw [← HY.out, e]; simp [List.getD, hi1]))
            clear HS
            have h4 : (y != f i) = true := by simp [bne, h3]
            go_wp2
            go_quiet (fail)
            go_wp2
            go_ret2
            exact unpackPost_bad HB.out rfl (below_drewN hby)
          · have HT : Hid (∀ j, j < i + 1 → P.getD j 0 = f j) := fun j hj => by
              rcases Nat.lt_or_ge j i with h5 | h5
              · exact HS.out j h5
              · obtain rfl : j = i := by omega
                rw [HY.out]; simpa using h3
            clear HS
            have h4 : (y != f i) = false := by simp [bne, h3]
            go_wp2
            go_quiet (fail)
            go_wp2
            go_roundw
            case rel => exact ⟨i + 1, by go_num, by omega, HT, below_drewN hbq⟩
            case measure => simp [intOf]; omega
        · have t2 : decide ((i : Int) < (n : Int)) = false := by simp; omega
          have HG := hid (show unpackF f n most = some out from ref_good HR.out (by
            rw [HPe.out]
            refine List.ext_getElem (by simp [hpl]) fun j h1 h2 => ?_
            have := HS.out j (by omega)
            rw [List.getD, List.getElem?_eq_getElem h1] at this
            simpa using this))
          clear HS
          go_wp2
          go_ret2
          exact unpackPost_good HG.out rfl (hown2.kept (grown_below hbq) (row_any _)) hby
    · have t1 : ((P.length : Int) != (n : Int)) = true := by simp; omega
      have HB := hid (show unpackF f n most = none from ref_bad HR.out fun e => by
        rw [HPe.out] at e
        exact hpl (by rw [e]; simp))
      go_wp2_with fail
      go_ret2
      exact unpackPost_bad HB.out rfl b2
set_option maxRecDepth 100000 in
set_option maxHeartbeats 4000000 in
theorem rlePacks_walk (ao : Option Addr) (n ca : Nat) (f : Nat → Int) (most : Int) (w : World) (ha : Row w ao n (fun i => .int .u32 (f i))) (hf : ∀ i, i < n → Wd (f i)) (hn : n ≤ ca) (hnm : ca ≤ maxLen) :
    Calls Try.prog 8 #[.slice ao n ca, .int .i64 most] w fun e w' => e = .returned (.bool true) ∧ Below w.heap.size w w' := by
  by_cases h1 : 10000 < n
  · have d1 : decide (10000 < (n : Int)) = true := by simp; omega
    go_enter Try.func8, Try.ntmps8
    go_wp2
    go_ret
    exact ⟨rfl, Below.refl _ _⟩
  · have d1 : decide (10000 < (n : Int)) = false := by simp; omega
    by_cases h2 : most < 0
    · have d2 : decide (most < 0) = true := by simp; omega
      go_enter Try.func8, Try.ntmps8
      go_wp2
      go_ret
      exact ⟨rfl, Below.refl _ _⟩
    · have d2 : decide (most < 0) = false := by simp; omega
      by_cases h3 : 20000 < most
      · have d3 : decide (20000 < most) = true := by simp; omega
        go_enter Try.func8, Try.ntmps8
        go_wp2
        go_ret
        exact ⟨rfl, Below.refl _ _⟩
      · obtain ⟨k, rfl⟩ : ∃ k : Nat, most = k := ⟨most.toNat, by omega⟩
        have d3 : decide (20000 < (k : Int)) = false := by simp; omega
        have HL := packF_short f n
        obtain ⟨P, hPe⟩ : ∃ P, packF f n = P := ⟨_, rfl⟩
        rw [hPe] at HL
        have HPa : Hid (∀ W, Below w.heap.size w W → Calls Try.prog 38 #[.slice ao n ca] W fun e w' => ∃ v, e = .returned v ∧ w'.ownsRow W.heap.size 72 1 v P.length (u32L P) ∧ Below W.heap.size W w') := fun W hW => by rw [← hPe]; exact pack_any ao n ca f W (ha.below hW) (by omega) hn hnm
        have HPb : Hid (∀ W, Below w.heap.size w W → Calls Try.prog 43 #[.slice ao n ca] W fun e w' => ∃ v, e = .returned v ∧ w'.ownsRow W.heap.size 72 1 v P.length (u32L P) ∧ Below W.heap.size W w') := fun W hW => by rw [← hPe]; exact refPack_any ao n ca f W (ha.below hW) (by omega) hn hnm
        clear hPe
        have HUa : Hid (∀ W, Below w.heap.size w W → Calls Try.prog 40 #[.int .i64 k, .slice ao n ca] W fun e w' => UnpackPost f n k W e w') := fun W hW => unpack_any ao n ca k f W (ha.below hW) hf (by omega) hn hnm (by omega)
        have HUb : Hid (∀ W, Below w.heap.size w W → Calls Try.prog 41 #[.int .i64 k, .slice ao n ca] W fun e w' => UnpackPost f n k W e w') := fun W hW => refUnpack_any ao n ca k f W (ha.below hW) hf (by omega) hn hnm (by omega)
        have same : ∀ (L : List Int), eqL (fun i => L.getD i 0) (fun i => L.getD i 0) L.length L.length = true := fun L => eqL_all fun _ _ => rfl
        have HSm := hid same
        clear same
        rcases hU : unpackF f n k with _ | out
        · have HU := hid hU
          clear hU
          go_enter Try.func8, Try.ntmps8
          go_wp2_with fail
          refine (HUa.out w (Below.refl _ _)).mono ?_
          intro e w1 hpost
          obtain ⟨rfl, b1⟩ := unpackPost_none HU.out hpost
          go_wp2_with fail
          refine (HUb.out w1 b1).mono ?_
          intro e w2 hpost2
          obtain ⟨rfl, hb2⟩ := unpackPost_none HU.out hpost2
          have b2 := b1.trans (hb2.mono b1.size)
          have HE : Hid (∀ W, Calls Try.prog 42 #[.slice none 0 0, .slice none 0 0] W fun e w' => e = .returned (.bool true) ∧ Below W.heap.size W w') := fun W => by
            have := equal_any none none 0 0 0 0 (fun _ => 0) (fun _ => 0) W (fun i hi => by omega) (fun i hi => by omega) (by omega)
            rw [eqL_all fun _ h => rfl] at this
            exact this
          clear HUa HUb hpost hpost2
          go_wp2_with fail
          refine (HPa.out w2 b2).mono ?_
          rintro e w3 ⟨v3, rfl, hp3, hb3⟩
          have b3 := b2.trans (hb3.mono b2.size)
          obtain ⟨pa, pc, rfl, hpc, hpm, hpr⟩ := own_view hp3
          go_wp2_with fail
          refine (HPb.out w3 b3).mono ?_
          rintro e w4 ⟨v4, rfl, hp4, hb4⟩
          have b4 := b3.trans (hb4.mono b3.size)
          obtain ⟨qa, qc, rfl, hqc, hqm, hqr⟩ := own_view hp4
          have HQ := equal_any pa qa P.length P.length pc qc _ _ w4 (hpr.below hb4) hqr (by omega)
          rw [HSm.out] at HQ
          go_wp2_with fail
          refine HQ.mono ?_
          rintro e w5 ⟨rfl, hb5⟩
          have b5 := b4.trans (hb5.mono b4.size)
          clear HQ
          go_wp2_with fail
          refine (HE.out w5).mono ?_
          rintro e w6 ⟨rfl, hb6⟩
          have b6 := b5.trans (hb6.mono b5.size)
          go_wp2_with fail
          refine (rleAlive_any _).mono ?_
          rintro e w7 ⟨rfl, hb7⟩
          go_wp2_with fail
          go_ret
          exact ⟨rfl, b6.trans (hb7.mono b6.size)⟩
        · have HU := hid hU
          have hol := (unpackF_packL hU).2
          clear hU
          go_enter Try.func8, Try.ntmps8
          go_wp2_with fail
          refine (HUa.out w (Below.refl _ _)).mono ?_
          intro e w1 hpost
          obtain ⟨v1, rfl, hown1, b1⟩ := unpackPost_some HU.out hpost
          obtain ⟨aa, ac, rfl, hac, ham, har⟩ := own_view hown1
          go_wp2_with fail
          refine (HUb.out w1 b1).mono ?_
          intro e w2 hpost2
          obtain ⟨v2, rfl, hown2, hb2⟩ := unpackPost_some HU.out hpost2
          obtain ⟨ba, bc, rfl, hbc, hbm, hbr⟩ := own_view hown2
          have b2 := b1.trans (hb2.mono b1.size)
          have har2 := har.below hb2
          clear HUa HUb hpost hpost2
          go_wp2_with fail
          refine (HPa.out w2 b2).mono ?_
          rintro e w3 ⟨v3, rfl, hp3, hb3⟩
          have b3 := b2.trans (hb3.mono b2.size)
          obtain ⟨pa, pc, rfl, hpc, hpm, hpr⟩ := own_view hp3
          go_wp2_with fail
          refine (HPb.out w3 b3).mono ?_
          rintro e w4 ⟨v4, rfl, hp4, hb4⟩
          have b4 := b3.trans (hb4.mono b3.size)
          obtain ⟨qa, qc, rfl, hqc, hqm, hqr⟩ := own_view hp4
          have HQ := equal_any pa qa P.length P.length pc qc _ _ w4 (hpr.below hb4) hqr (by omega)
          rw [HSm.out] at HQ
          go_wp2_with fail
          refine HQ.mono ?_
          rintro e w5 ⟨rfl, hb5⟩
          have b5 := b4.trans (hb5.mono b4.size)
          clear HQ
          have HQ2 := equal_any aa ba out.length out.length ac bc _ _ w5 (((har2.below hb3).below hb4).below hb5) (((hbr.below hb3).below hb4).below hb5) (by omega)
          rw [HSm.out] at HQ2
          go_wp2_with fail
          refine HQ2.mono ?_
          rintro e w6 ⟨rfl, hb6⟩
          have b6 := b5.trans (hb6.mono b5.size)
          clear HQ2
          go_wp2_with fail
          refine (rleAlive_any _).mono ?_
          rintro e w7 ⟨rfl, hb7⟩
          go_wp2_with fail
          go_ret
          exact ⟨rfl, b6.trans (hb7.mono b6.size)⟩
end Go.Proofs.Ytgelgpcpllmnkaa
