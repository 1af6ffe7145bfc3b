/-
  Contracts of layer 38: whether a list fits as it stands (the program's and the document's).
-/
import Derived.Test.YtmkpimdbmjpelaaOpaLast
namespace Go.Proofs.Ytmkpimdbmjpelaa
open Go.RowKit
/-- Of the first k all are. -/
def allOk (P : Nat → Bool) : Nat → Bool
  | 0 => true
  | k + 1 => allOk P k && P k
theorem allOk_no {P : Nat → Bool} {k n : Nat} (h : k < n) (hk : P k = false) : allOk P n = false := by
  induction n with
  | zero => omega
  | succ n ih =>
    show (allOk P n && P n) = false
    rcases (show k < n ∨ k = n by omega) with e | rfl
    · rw [ih e]; rfl
    · rw [hk]; simp
theorem allOk_yes {P : Nat → Bool} {k : Nat} (h : allOk P k = true) (hk : P k = true) : allOk P (k + 1) = true := by
  show (allOk P k && P k) = true
  rw [h, hk]; rfl
def fits38 (g : Nat → Nat → Int) (n : Nat) : Bool := allOk (fun i => lastR (g i) g i) n
set_option maxRecDepth 100000 in
set_option maxHeartbeats 2000000 in
theorem opaFits_any (ao : Option Addr) (n cap : Nat) (g : Nat → Nat → Int) (w : World) (hn : n ≤ 20) (hcap : n ≤ cap ∧ cap ≤ maxLen) (hT : Tasks w ao n g) (hG : ∀ i, i < n → OkT (g i)) :
    Calls Try.prog 11 #[.slice ao n cap] w fun e w' => e = .returned (.bool (fits38 g n)) ∧ Below w.heap.size w w' := by
  unfold maxLen at hcap
  obtain ⟨hcap1, hcap2⟩ := hcap
  have HC : Hid (∀ k ao cap W, k < n → Tasks W ao k g → Calls Try.prog 27 #[tv (g k), .slice ao k cap] W fun e w' => e = .returned (.bool (lastR (g k) g k)) ∧ Below W.heap.size W w') := fun k ao cap W hk hW =>
    opaLast_any ao k cap (g k) g W (by omega) hW (hG k hk)
  clear hG
  obtain ⟨P, hP⟩ : ∃ P : Nat → Bool, P = fun i => lastR (g i) g i := ⟨_, rfl⟩
  have HE : Hid (fits38 g n = allOk P n) := by show _ = _; rw [hP]; rfl
  have HPk : Hid (∀ k, P k = lastR (g k) g k) := fun k => by rw [hP]
  clear hP
  go_enter Try.func11, Try.ntmps11
  go_wp2
  go_loopw [3, 6] (fun _ i wr => ∃ k : Nat, k ≤ n ∧ i = .int .i64 k ∧ Hid (allOk P k = true) ∧ Below w.heap.size w wr) (fun _ i _ => n - (intOf i).toNat)
  case atStart => exact ⟨0, by omega, rfl, rfl, Below.refl _ _⟩
  case round =>
    obtain ⟨k, hk, rfl, HO, B1⟩ := hrel
    by_cases hlt : k < n
    · obtain ⟨bb, oo, rfl, hbl⟩ := hT.form hlt
      obtain ⟨⟨n0, n1, n2, n3⟩, ⟨n4, n5, n6, n7⟩, n8, n9, n10⟩ := (hT.below B1).at_ hlt
      have f0 := Cls.cell n0
      have f1 := Cls.cell n1
      have f2 := Cls.cell n2
      have f3 := Cls.cell n3
      have f4 := Cls.cell n4
      have f5 := Cls.cell n5
      have f6 := Cls.cell n6
      have f7 := Cls.cell n7
      have f8 := Cls.cell n8
      have f9 := Cls.cell n9
      have f10 := Cls.cell n10
      clear n0 n1 n2 n3 n4 n5 n6 n7 n8 n9 n10
      have HTk := hid (hT.below B1)
      have HQ := hid (fun (i : Cls wr) => HC.out k (some ⟨bb, oo, none⟩) cap i.wd hlt (((HTk.out).less (by omega)).below i.below))
      have HP := hid (HPk.out k)
      generalize lastR (g k) g k = ok1 at HQ HP
      cases ok1
      · have HN := hid (allOk_no hlt HP.out)
        go_wp2
        refine wp_region_cls (by kernel_rfl) (by kernel_rfl) ?_
        repeat (go_big_quiet_step ((first | (go_at_call 27; exact Calls.cls _ (HQ.out _)))))
        refine wpQuiet_nil ?_
        intro _ hw'
        obtain ⟨nq, rfl⟩ := hw'
        go_wp2
        go_ret
        exact ⟨by rw [HE.out, HN.out]; rfl, B1.trans (nq.below.mono B1.size)⟩
      · have HY := hid (allOk_yes HO.out HP.out)
        go_wp2
        refine wp_region_cls (by kernel_rfl) (by kernel_rfl) ?_
        repeat (go_big_quiet_step ((first | (go_at_call 27; exact Calls.cls _ (HQ.out _)))))
        refine wpQuiet_nil ?_
        intro _ hw'
        obtain ⟨nq, rfl⟩ := hw'
        go_wp2
        go_roundw
        case rel => exact ⟨k + 1, by omega, by go_num, HY, B1.trans (nq.below.mono B1.size)⟩
        case measure => simp [intOf]; omega
    · obtain rfl : k = n := by omega
      go_wp2
      go_ret
      exact ⟨by rw [HE.out, HO.out]; rfl, B1⟩
set_option maxRecDepth 100000 in
set_option maxHeartbeats 2000000 in
theorem refFits38_any (ao : Option Addr) (n cap : Nat) (g : Nat → Nat → Int) (w : World) (hn : n ≤ 20) (hcap : n ≤ cap ∧ cap ≤ maxLen) (hT : Tasks w ao n g) (hG : ∀ i, i < n → OkT (g i)) :
    Calls Try.prog 12 #[.slice ao n cap] w fun e w' => e = .returned (.bool (fits38 g n)) ∧ Below w.heap.size w w' := by
  unfold maxLen at hcap
  obtain ⟨hcap1, hcap2⟩ := hcap
  have HC : Hid (∀ k ao cap W, k < n → Tasks W ao k g → Calls Try.prog 29 #[tv (g k), .slice ao k cap] W fun e w' => e = .returned (.bool (lastR (g k) g k)) ∧ Below W.heap.size W w') := fun k ao cap W hk hW =>
    refLast_any ao k cap (g k) g W (by omega) hW (fun i hi => hG i (by omega)) (hG k hk)
  clear hG
  obtain ⟨P, hP⟩ : ∃ P : Nat → Bool, P = fun i => lastR (g i) g i := ⟨_, rfl⟩
  have HE : Hid (fits38 g n = allOk P n) := by show _ = _; rw [hP]; rfl
  have HPk : Hid (∀ k, P k = lastR (g k) g k) := fun k => by rw [hP]
  clear hP
  go_enter Try.func12, Try.ntmps12
  go_wp2
  go_loopw [3] (fun i wr => ∃ k : Nat, k ≤ n ∧ i = .int .i64 k ∧ Hid (allOk P k = true) ∧ Below w.heap.size w wr) (fun i _ => n - (intOf i).toNat)
  case atStart => exact ⟨0, by omega, rfl, rfl, Below.refl _ _⟩
  case round =>
    obtain ⟨k, hk, rfl, HO, B1⟩ := hrel
    by_cases hlt : k < n
    · obtain ⟨bb, oo, rfl, hbl⟩ := hT.form hlt
      obtain ⟨⟨n0, n1, n2, n3⟩, ⟨n4, n5, n6, n7⟩, n8, n9, n10⟩ := (hT.below B1).at_ hlt
      have f0 := Cls.cell n0
      have f1 := Cls.cell n1
      have f2 := Cls.cell n2
      have f3 := Cls.cell n3
      have f4 := Cls.cell n4
      have f5 := Cls.cell n5
      have f6 := Cls.cell n6
      have f7 := Cls.cell n7
      have f8 := Cls.cell n8
      have f9 := Cls.cell n9
      have f10 := Cls.cell n10
      clear n0 n1 n2 n3 n4 n5 n6 n7 n8 n9 n10
      have HTk := hid (hT.below B1)
      have HQ := hid (fun (i : Cls wr) => HC.out k (some ⟨bb, oo, none⟩) cap i.wd hlt (((HTk.out).less (by omega)).below i.below))
      have HP := hid (HPk.out k)
      generalize lastR (g k) g k = ok1 at HQ HP
      cases ok1
      · have HN := hid (allOk_no hlt HP.out)
        go_wp2
        refine wp_region_cls (by kernel_rfl) (by kernel_rfl) ?_
        repeat (go_big_quiet_step ((first | (go_at_call 29; exact Calls.cls _ (HQ.out _)))))
        refine wpQuiet_nil ?_
        intro _ hw'
        obtain ⟨nq, rfl⟩ := hw'
        go_wp2
        go_ret
        exact ⟨by rw [HE.out, HN.out]; rfl, B1.trans (nq.below.mono B1.size)⟩
      · have HY := hid (allOk_yes HO.out HP.out)
        go_wp2
        refine wp_region_cls (by kernel_rfl) (by kernel_rfl) ?_
        repeat (go_big_quiet_step ((first | (go_at_call 29; exact Calls.cls _ (HQ.out _)))))
        refine wpQuiet_nil ?_
        intro _ hw'
        obtain ⟨nq, rfl⟩ := hw'
        go_wp2
        go_roundw
        case rel => exact ⟨k + 1, by omega, by go_num, HY, B1.trans (nq.below.mono B1.size)⟩
        case measure => simp [intOf]; omega
    · obtain rfl : k = n := by omega
      go_wp2
      go_ret
      exact ⟨by rw [HE.out, HO.out]; rfl, B1⟩
end Go.Proofs.Ytmkpimdbmjpelaa
