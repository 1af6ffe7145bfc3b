/-
  The walk of ServerFits.
-/
import Derived.Test.YtcjdfgfnpmmcnaaServerFits
namespace Go.Proofs.Ytcjdfgfnpmmcnaa
open Go.RowKit
set_option maxRecDepth 100000 in
set_option maxHeartbeats 4000000 in
theorem serverFits_walk (ao : Option Addr) (n cap : Nat) (p b : Int) (g : Nat → Nat → Int) (w : World) (hm : n ≤ maxLen) (hcap : n ≤ cap ∧ cap ≤ maxLen) (hT : Tasks w ao n g) :
    Calls Try.prog 10 #[.agg #[.int .i64 p, .int .i64 b], .slice ao n cap] w fun e w' => e = .returned (.bool true) ∧ Below w.heap.size w w' := by
  have HR := hid (refRight_any p b)
  cases hs : sR p b
  · rw [hs] at HR
    go_enter Try.func10, Try.ntmps10
    go_wp2_with (go_at_call 14; refine (HR.out _).mono ?_; rintro e w0 ⟨rfl, rfl⟩)
    go_ret
    exact ⟨rfl, (Below.refl _ _).alloc (Nat.le_refl _) _⟩
  · rw [hs] at HR
    rcases (show 400 < p ∨ p ≤ 400 by omega) with hp | hp
    · go_enter Try.func10, Try.ntmps10
      go_wp2_with (go_at_call 14; refine (HR.out _).mono ?_; rintro e w0 ⟨rfl, rfl⟩)
      go_ret
      exact ⟨rfl, (Below.refl _ _).alloc (Nat.le_refl _) _⟩
    · by_cases hG : n ≤ 5 ∧ ∀ i, i < n → OkT (g i)
      · have HRt : Hid (∀ W, Tasks W ao n g → Calls Try.prog 35 #[.slice ao n cap, .int .i64 5] W fun e w' => e = .returned (.bool true) ∧ Below W.heap.size W w') := fun W hW =>
          (right56_any ao n cap g 5 W hm (by omega) hW).mono fun e w' ⟨r, he, hr, hb⟩ => ⟨by rw [he, hr.2 hG], hb⟩
        obtain ⟨hn, hOk⟩ := hG
        have HC1 : Hid (∀ k ao cap W, k < n → Tasks W ao k g → Calls Try.prog 36 #[.agg #[.int .i64 p, .int .i64 b], tv (g k), .slice ao k cap] W fun e w' => e = .returned (rv (respW p b (g k) (fun i => termOf (g i)) k)) ∧ Below W.heap.size W w') := fun k ao cap W hk hW => by
          rw [← resp_eq hs (hOk k hk) fun i hi => (hOk i (by omega)).fit]
          exact response_any ao k cap p b (g k) g W (by omega) hW (fun i hi => hOk i (by omega)) (hOk k hk) hs
        have HC2 : Hid (∀ k ao cap W, k < n → Tasks W ao k g → Calls Try.prog 37 #[.int .i64 p, .int .i64 b, tv (g k), .slice ao k cap] W fun e w' => e = .returned (rv (respW p b (g k) (fun i => termOf (g i)) k)) ∧ Below W.heap.size W w') := fun k ao cap W hk hW =>
          refResponse_any ao k cap p b (g k) g W (by omega) hW (fun i hi => hOk i (by omega)) (hOk k hk) hs
        have HF1 : Hid (∀ W, Tasks W ao n g → Calls Try.prog 38 #[.agg #[.int .i64 p, .int .i64 b], .slice ao n cap] W fun e w' => e = .returned (.bool (fitsR p b g n)) ∧ Below W.heap.size W w') := fun W hW =>
          serverFits_any ao n cap p b g W (by omega) hcap hW hOk hs
        have HF2 : Hid (∀ W, Tasks W ao n g → Calls Try.prog 39 #[.int .i64 p, .int .i64 b, .slice ao n cap] W fun e w' => e = .returned (.bool (fitsR p b g n)) ∧ Below W.heap.size W w') := fun W hW =>
          refFits_any ao n cap p b g W (by omega) hcap hW hOk hs
        clear hOk hs
        unfold maxLen at hcap hm
        obtain ⟨hcap1, hcap2⟩ := hcap
        have hTA := hid (hT.alloc_ (Obj.cells #[Value.int .i64 p, Value.int .i64 b] 23))
        go_enter Try.func10, Try.ntmps10
        go_wp2_with (first | (go_at_call 14; refine (HR.out _).mono ?_; rintro e w0 ⟨rfl, rfl⟩) | (go_at_call 35; refine (HRt.out _ hTA.out).mono ?_; rintro e w1 ⟨rfl, hb1⟩))
        have s0 := (boxed2 hb1).1
        have s1 := (boxed2 hb1).2
        have B0 := ((Below.refl w.heap.size w).alloc (Nat.le_refl _) (Obj.cells #[Value.int .i64 p, Value.int .i64 b] 23)).trans (hb1.mono (by simp))
        have hT1 := hT.below B0
        clear hTA hb1 HRt HR hT
        have hw1 : w.heap.size ≤ w1.heap.size := B0.size
        go_loopw [5, 6, 7, 8, 9] (fun i _ _ _ _ wr => ∃ k : Nat, k ≤ n ∧ i = .int .i64 k ∧ Below w1.heap.size w1 wr) (fun i _ _ _ _ _ => n - (intOf i).toNat)
        case atStart => exact ⟨0, by omega, rfl, Below.refl _ _⟩
        case round =>
          obtain ⟨k, hk, rfl, hbr⟩ := hrel
          have hTr := hT1.below hbr
          have e0 := Cls.cell (kept s0 hbr)
          have e1 := Cls.cell (kept s1 hbr)
          by_cases hlt : k < n
          · obtain ⟨bb, oo, rfl, hbl⟩ := hT1.form hlt
            obtain ⟨⟨n0, n1, n2, n3⟩, ⟨n4, n5, n6, n7⟩, n8, n9, n10⟩ := hTr.at_ hlt
            have f0 := Cls.cell n0
            have f1 := Cls.cell n1
            have f2 := Cls.cell n2
            have f3 := Cls.cell n3
            have f4 := Cls.cell n4
            have f5 := Cls.cell n5
            have f6 := Cls.cell n6
            have f7 := Cls.cell n7
            have f8 := Cls.cell n8
            have f9 := Cls.cell n9
            have f10 := Cls.cell n10
            clear n0 n1 n2 n3 n4 n5 n6 n7 n8 n9 n10
            have HTk := hid hTr
            have HQ1 := hid (fun (i : Cls wr) => HC1.out k (some ⟨bb, oo, none⟩) cap i.wd hlt ((HTk.out.less (by omega)).below i.below))
            have HQ2 := hid (fun W (hW : Below wr.heap.size wr W) => HC2.out k (some ⟨bb, oo, none⟩) cap W hlt ((HTk.out.less (by omega)).below hW))
            clear HC1 HC2 HF1 HF2
            obtain ⟨⟨rv1, ok1⟩, hrr⟩ : ∃ y, respW p b (g k) (fun i => termOf (g i)) k = y := ⟨_, rfl⟩
            rw [hrr] at HQ1 HQ2
            clear hrr
            cases ok1
            all_goals
              go_wp2
              refine wp_region_cls (by kernel_rfl) (by kernel_rfl) ?_
              repeat (go_big_quiet_step ((first | (go_at_call 36; exact Calls.cls _ (HQ1.out _)))))
              refine wpQuiet_nil ?_
              intro _ hw'
              obtain ⟨nq, rfl⟩ := hw'
              have g0 := Cls.cell (e0 nq)
              have g1 := Cls.cell (e1 nq)
              have h0 := Cls.cell (f0 nq)
              have h1 := Cls.cell (f1 nq)
              have h2 := Cls.cell (f2 nq)
              have h3 := Cls.cell (f3 nq)
              have h4 := Cls.cell (f4 nq)
              have h5 := Cls.cell (f5 nq)
              have h6 := Cls.cell (f6 nq)
              have h7 := Cls.cell (f7 nq)
              have h8 := Cls.cell (f8 nq)
              have h9 := Cls.cell (f9 nq)
              have h10 := Cls.cell (f10 nq)
              clear e0 e1 f0 f1 f2 f3 f4 f5 f6 f7 f8 f9 f10
              have HQ3 := hid (fun (i : Cls nq.wd) => HQ2.out i.wd (nq.below.trans (i.below.mono nq.below.size)))
              go_wp2
              refine wp_region_cls (by kernel_rfl) (by kernel_rfl) ?_
              repeat (go_big_quiet_step ((first | (go_at_call 37; exact Calls.cls _ (HQ3.out _)))))
              refine wpQuiet_nil ?_
              intro _ hw'
              obtain ⟨mq, rfl⟩ := hw'
              go_wp2
              have b1 := hbr.trans (nq.below.mono hbr.size)
              go_roundw
              case rel => exact ⟨k + 1, by omega, by go_num, b1.trans (mq.below.mono b1.size)⟩
              case measure => simp [intOf]; omega
          · obtain rfl : k = n := by omega
            have HTk := hid hTr
            have HQ1 := hid (fun (i : Cls wr) => HF1.out i.wd (HTk.out.below i.below))
            have HQ2 := hid (fun (i : Cls wr) => HF2.out i.wd (HTk.out.below i.below))
            clear HC1 HC2 HF1 HF2
            generalize fitsR p b g k = F at HQ1 HQ2
            cases F
            all_goals
              go_wp2
              refine wp_region_cls (by kernel_rfl) (by kernel_rfl) ?_
              repeat (go_big_quiet_step ((first | (go_at_call 38; exact Calls.cls _ (HQ1.out _)) | (go_at_call 39; exact Calls.cls _ (HQ2.out _)) | (go_at_call 17; exact Calls.cls _ (serverAlive_any _)))))
              refine wpQuiet_nil ?_
              intro _ hw'
              obtain ⟨nq, rfl⟩ := hw'
              go_wp2
              go_ret
              have b1 := B0.trans (hbr.mono B0.size)
              exact ⟨rfl, b1.trans (nq.below.mono b1.size)⟩
      · have HRt : Hid (∀ W, Tasks W ao n g → Calls Try.prog 35 #[.slice ao n cap, .int .i64 5] W fun e w' => e = .returned (.bool false) ∧ Below W.heap.size W w') := fun W hW =>
          (right56_any ao n cap g 5 W hm (by omega) hW).mono fun e w' ⟨r, he, hr, hb⟩ => ⟨by
            cases r
            · exact he
            · exact absurd (hr.1 rfl) hG, hb⟩
        have hTA := hid (hT.alloc_ (Obj.cells #[Value.int .i64 p, Value.int .i64 b] 23))
        clear hG hT
        go_enter Try.func10, Try.ntmps10
        go_wp2_with (first | (go_at_call 14; refine (HR.out _).mono ?_; rintro e w0 ⟨rfl, rfl⟩) | (go_at_call 35; refine (HRt.out _ hTA.out).mono ?_; rintro e w1 ⟨rfl, hb1⟩))
        go_ret
        exact ⟨rfl, ((Below.refl w.heap.size w).alloc (Nat.le_refl _) _).trans (hb1.mono (by simp))⟩
end Go.Proofs.Ytcjdfgfnpmmcnaa
