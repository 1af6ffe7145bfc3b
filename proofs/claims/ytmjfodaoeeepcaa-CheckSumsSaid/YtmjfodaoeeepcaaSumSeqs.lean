/-
  Layer 2: the iterators of CheckSums: slices.Values, and the law's own that notes whether its last number was asked for; the document's sum.
-/
import Derived.Test.YtmjfodaoeeepcaaSumTurns
import Derived.Test.YtmjfodaoeeepcaaCheckRef
namespace Go.Proofs.Ytmjfodaoeeepcaa
open Go.RowKit Go.Shelf
theorem sum_snoc {xs : List Int} {k : Nat} (hk : k < xs.length) : xs.take (k + 1) = xs.take k ++ [xs.getD k 0] := by
  rw [List.take_succ_eq_append_getElem hk]; simp [hk]
section
attribute [local go_sem] Oper.semAt_some
set_option maxRecDepth 100000 in
set_option maxHeartbeats 1000000 in
theorem values1_turns (mm : Nat) (hmm : 3 ≤ mm) (Bl : Nat) (ao : Option Addr) (c : Nat) (xs : List Int) (w : World) (hl : Boxed w Bl 22 (.slice ao xs.length c)) (hT : Row w ao xs.length (fun i => .int .i64 (xs.getD i 0))) (hn : xs.length ≤ 100000) :
    Turns Fence.wide mm Try.prog 37 #[.pointer (some ⟨Bl, 0, none⟩)] encS (SumI w) (SumI2 w) (SumX w xs) (fun ys => ys = xs) (fun pre x => pre ++ [x] <+: xs) (sumW w) := by
  intro l R Rx W1 hg1 hsz1 hRs hRxs hY hR1
  have HI1 := hid ((sumW_is w).kept hg1 rfl)
  have HYY := hid hY
  have HR1 := hid hR1
  have HT := hid hT
  have hlc := hl.cell
  have h1 : 1 ≤ mm := by omega
  obtain ⟨n, hnn⟩ : ∃ n, xs.length = n := ⟨_, rfl⟩
  have HN := hid hnn
  rw [hnn] at HT hlc hn
  clear hg1 hsz1 hRs hRxs hY hR1 hl hT hnn
  refine callsIn_of_wp Try.func37 rfl trivial ?_ rfl
  simp only [Try.ntmps37, List.size_toArray, List.length_cons, List.length_nil, Nat.reduceAdd, Nat.reduceSub, Array.replicate_succ, Array.replicate_zero, List.push_toArray, List.append_toArray, List.nil_append, List.cons_append]
  have hl' := (HI1.out.2.cell (cell_lt hlc)).trans hlc
  gi_wp2
  gi_loopw [4, 7] (fun _ i wr => ∃ k : Nat, k ≤ n ∧ i = .int .i64 k ∧ Hid (SumI w (xs.take k) wr) ∧ Hid (R wr)) (fun _ i _ => n - (intOf i).toNat)
  case atStart => exact ⟨0, Nat.zero_le _, rfl, HI1, HR1⟩
  case round =>
    clear HI1 HR1
    obtain ⟨k, hk, rfl, HI, HR⟩ := hrel
    by_cases hlt : k < n
    · have t0 : decide ((k : Int) < (n : Int)) = true := by simp; omega
      obtain ⟨b, o, rfl, c00⟩ := (HT.out.below HI.out.2) k hlt
      have c1 : wr.cell? ⟨b, o + k, none⟩ = some (.int .i64 (xs.getD k 0)) := c00
      have HS := hid (sum_snoc (xs := xs) (k := k) (by rw [HN.out]; exact hlt))
      obtain ⟨x, hx⟩ : ∃ x, xs.getD k 0 = x := ⟨_, rfl⟩
      rw [hx] at HS c1
      have HP := hid (show xs.take k ++ [x] <+: xs from by rw [← HS.out]; exact List.take_prefix _ _)
      obtain ⟨fn, tmps, assign, body, hy, hRd⟩ := HYY.out _ x wr HI.out HR.out HP.out
      have hy : (Instr.yield l #[.int .i64 x]).run Try.prog wr = _ := hy
      clear c00 hx
      gi_wp2
      refine hRd.mono ?_
      rintro e W3 (⟨rfl, hI2, hR3⟩ | ⟨rfl, c', hIx, hRx⟩)
      · have HI2 : Hid (SumI w (xs.take k ++ [x]) W3) := hI2
        have HR3 := hid hR3
        clear hI2 hR3
        gi_wp2
        go_roundw
        case rel => exact ⟨k + 1, by omega, by go_num, by rw [HS.out]; exact HI2, HR3⟩
        case measure => simp [intOf]; omega
      · have HIX := hid hIx
        have HRX := hid hRx
        clear hIx hRx
        gi_wp2
        refine bodyPost_ret (results_none rfl _ _ _) rfl ?_
        exact ⟨⟨_, rfl⟩, .inr ⟨_, _, HIX.out, HRX.out⟩⟩
    · obtain rfl : k = n := by omega
      have t0 : decide ((k : Int) < (k : Int)) = false := by simp
      have HI3 : Hid (SumI w xs wr) := by
        have := HI.out
        rw [List.take_of_length_le (by rw [HN.out]; exact Nat.le_refl _)] at this
        exact this
      gi_wp2
      go_end0
      exact ⟨⟨_, rfl⟩, .inl ⟨_, rfl, HI3.out, HR.out⟩⟩
set_option maxRecDepth 100000 in
set_option maxHeartbeats 1000000 in
theorem row1_turns (mm : Nat) (hmm : 3 ≤ mm) (Bl Bp q : Nat) (ao : Option Addr) (c : Nat) (xs : List Int) (w : World) (hl : Boxed w Bl 22 (.slice ao xs.length c)) (_hp : Boxed w Bp 74 (.pointer (some ⟨q, 0, none⟩))) (hT : Row w ao xs.length (fun i => .int .i64 (xs.getD i 0))) (hn : xs.length ≤ 100000)
    (hnone : sumF 0 (xs.take (xs.length - 1)) = none) :
    Turns Fence.wide mm Try.prog 53 #[.pointer (some ⟨Bl, 0, none⟩), .pointer (some ⟨Bp, 0, none⟩)] encS (SumI w) (SumI2 w) (SumX w xs) (fun ys => ys = xs) (fun pre x => pre ++ [x] <+: xs) (sumW w) := by
  intro l R Rx W1 hg1 hsz1 hRs hRxs hY hR1
  have HI1 := hid ((sumW_is w).kept hg1 rfl)
  have HYY := hid hY
  have HR1 := hid hR1
  have HT := hid hT
  have HNO := hid hnone
  have hlc := hl.cell
  have h1 : 1 ≤ mm := by omega
  obtain ⟨n, hnn⟩ : ∃ n, xs.length = n := ⟨_, rfl⟩
  have HN := hid hnn
  rw [hnn] at HT hlc HNO hn
  clear hg1 hsz1 hRs hRxs hY hR1 hl hT hnn hnone _hp
  refine callsIn_of_wp Try.func53 rfl trivial ?_ rfl
  simp only [Try.ntmps53, List.size_toArray, List.length_cons, List.length_nil, Nat.reduceAdd, Nat.reduceSub, Array.replicate_succ, Array.replicate_zero, List.push_toArray, List.append_toArray, List.nil_append, List.cons_append]
  have hl' := (HI1.out.2.cell (cell_lt hlc)).trans hlc
  gi_wp2
  gi_loopw [8] (fun i wr => ∃ k : Nat, k ≤ n ∧ i = .int .i64 k ∧ Hid (SumI w (xs.take k) wr) ∧ Hid (R wr)) (fun i _ => n - (intOf i).toNat)
  case atStart => exact ⟨0, Nat.zero_le _, rfl, HI1, HR1⟩
  case round =>
    clear HI1 HR1 hl'
    obtain ⟨k, hk, rfl, HI, HR⟩ := hrel
    by_cases hlt : k < n
    · have t0 : decide ((k : Int) < (n : Int)) = true := by simp; omega
      have hl2 := (HI.out.2.cell (cell_lt hlc)).trans hlc
      have hkn : k ≠ n - 1 := fun e => by
        obtain ⟨s, hs, _⟩ := HI.out.1
        rw [e, HNO.out] at hs
        cases hs
      have t1 : ((k : Int) == (n : Int) - 1) = false := by simp; omega
      obtain ⟨b, o, rfl, c00⟩ := (HT.out.below HI.out.2) k hlt
      have c1 : wr.cell? ⟨b, o + k, none⟩ = some (.int .i64 (xs.getD k 0)) := c00
      have HS := hid (sum_snoc (xs := xs) (k := k) (by rw [HN.out]; exact hlt))
      obtain ⟨x, hx⟩ : ∃ x, xs.getD k 0 = x := ⟨_, rfl⟩
      rw [hx] at HS c1
      have HP := hid (show xs.take k ++ [x] <+: xs from by rw [← HS.out]; exact List.take_prefix _ _)
      obtain ⟨fn, tmps, assign, body, hy, hRd⟩ := HYY.out _ x wr HI.out HR.out HP.out
      have hy : (Instr.yield l #[.int .i64 x]).run Try.prog wr = _ := hy
      clear c00 hx
      gi_wp2
      refine hRd.mono ?_
      rintro e W3 (⟨rfl, hI2, hR3⟩ | ⟨rfl, c', hIx, hRx⟩)
      · have HI2 : Hid (SumI w (xs.take k ++ [x]) W3) := hI2
        have HR3 := hid hR3
        clear hI2 hR3
        gi_wp2
        go_roundw
        case rel => exact ⟨k + 1, by omega, by go_num, by rw [HS.out]; exact HI2, HR3⟩
        case measure => simp [intOf]; omega
      · have HIX := hid hIx
        have HRX := hid hRx
        clear hIx hRx
        gi_wp2
        refine bodyPost_ret (results_none rfl _ _ _) rfl ?_
        exact ⟨⟨_, rfl⟩, .inr ⟨_, _, HIX.out, HRX.out⟩⟩
    · obtain rfl : k = n := by omega
      have t0 : decide ((k : Int) < (k : Int)) = false := by simp
      have HI3 : Hid (SumI w xs wr) := by
        have := HI.out
        rw [List.take_of_length_le (by rw [HN.out]; exact Nat.le_refl _)] at this
        exact this
      gi_wp2
      go_end0
      exact ⟨⟨_, rfl⟩, .inl ⟨_, rfl, HI3.out, HR.out⟩⟩
end
theorem values_any (ao : Option Addr) (n c : Nat) (w : World) : Calls Try.prog 9 #[.slice ao n c] w fun e w' => e = .returned (.func (.func 37) #[] #[.pointer (some ⟨w.heap.size, 0, none⟩)]) ∧ w.alloc (.cells #[.slice ao n c] 22) = w' := by
  go_enter Try.func9, Try.ntmps9
  go_wp2
  go_ret
  exact ⟨rfl, rfl⟩
set_option maxRecDepth 100000 in
set_option maxHeartbeats 1000000 in
theorem refSum02_any (ao : Option Addr) (n c : Nat) (xs : List Int) (hn : xs.length = n) (hn2 : n ≤ 100000) (w : World) (hT : Row w ao n (fun i => .int .i64 (xs.getD i 0))) :
    Calls Try.prog 10 #[.slice ao n c] w fun e w' => e = .returned (rv (rSum xs)) ∧ w = w' := by
  have HN := hid hn
  have HT := hid hT
  clear hn hT
  go_enter Try.func10, Try.ntmps10
  go_wp2
  go_loopw [4, 5] (fun s i wr => ∃ (k : Nat) (z : Int), k ≤ n ∧ i = .int .i64 k ∧ s = .int .i64 z ∧ Hid (sumF 0 (xs.take k) = some z) ∧ w = wr) (fun _ i _ => n - (intOf i).toNat)
  case atStart => exact ⟨0, 0, Nat.zero_le _, rfl, rfl, rfl, rfl⟩
  case round =>
    obtain ⟨k, z, hk, rfl, rfl, HZ, rfl⟩ := hrel
    by_cases hlt : k < n
    · obtain ⟨b, o, rfl, c00⟩ := HT.out k hlt
      have c1 : w.cell? ⟨b, o + k, none⟩ = some (.int .i64 (xs.getD k 0)) := c00
      have HS := hid (sum_snoc (xs := xs) (k := k) (by rw [HN.out]; exact hlt))
      obtain ⟨x, hx⟩ : ∃ x, xs.getD k 0 = x := ⟨_, rfl⟩
      rw [hx] at HS c1
      have i0 : (0 : Int) ≤ (k : Int) := by omega
      have i1 : (k : Int) < (n : Int) := by omega
      have HA := hid (addRef_any z x w)
      have HF := hid (show sumF 0 (xs.take (k + 1)) = if (addR z x).2 then some (addR z x).1 else none by rw [HS.out, sumF_append, HZ.out]; rfl)
      obtain ⟨⟨m, ok⟩, hm⟩ : ∃ y, addR z x = y := ⟨_, rfl⟩
      rw [hm] at HA HF
      clear c00 hx hm
      cases ok with
      | false =>
        have HR : Hid (rSum xs = (0, false)) := by
          show _ = _
          unfold rSum
          rw [sumF_prefix (List.take_prefix (k + 1) xs) HF.out]
        go_wp2_with fail
        refine HA.out.mono ?_
        rintro e w2 ⟨rfl, rfl⟩
        go_wp2
        go_ret2
        exact ⟨by rw [HR.out]; rfl, rfl⟩
      | true =>
        go_wp2_with fail
        refine HA.out.mono ?_
        rintro e w2 ⟨rfl, rfl⟩
        go_wp2
        go_roundw
        case rel => exact ⟨k + 1, m, by omega, by go_num, rfl, HF, trivial⟩
        case measure => simp [intOf]; omega
    · obtain rfl : k = n := by omega
      have HR : Hid (rSum xs = (z, true)) := by
        show _ = _
        unfold rSum
        have := HZ.out
        rw [List.take_of_length_le (by rw [HN.out]; exact Nat.le_refl _)] at this
        rw [this]
      go_wp2
      go_ret2
      exact ⟨by rw [HR.out]; rfl, rfl⟩
theorem lrow_any (ao : Option Addr) (n c q : Nat) (w : World) : Calls Try.prog 39 #[.slice ao n c, .pointer (some ⟨q, 0, none⟩)] w fun e w' => e = .returned (.func (.func 53) #[] #[.pointer (some ⟨w.heap.size, 0, none⟩), .pointer (some ⟨w.heap.size + 1, 0, none⟩)]) ∧ w' = (w.alloc (.cells #[.slice ao n c] 22)).alloc (.cells #[.pointer (some ⟨q, 0, none⟩)] 74) := by
  go_enter Try.func39, Try.ntmps39
  go_wp2
  go_ret
  exact ⟨rfl, rfl⟩
end Go.Proofs.Ytmjfodaoeeepcaa
