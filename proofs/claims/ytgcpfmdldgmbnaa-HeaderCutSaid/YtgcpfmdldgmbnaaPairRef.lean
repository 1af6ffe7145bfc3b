/-
  Contracts of the document's layer 5: its loops over the bits of a word; the masks of a seed.
-/
import Derived.Test.YtgcpfmdldgmbnaaPair
namespace Go.Proofs.Ytgcpfmdldgmbnaa
open Go.RowKit
def fellAt (a b c : BitVec 32) (i : Nat) : Bool := !((bt c i && !bt a i) || (bt b i && !bt c i))
theorem fellB_all {a b c : BitVec 32} (h : ∀ i, i < 32 → fellAt a b c i = true) : fellB a b c = true := by
  have e1 : c &&& ~~~a = 0#32 := by
    refine BitVec.eq_of_getLsbD_eq fun i hi => ?_
    have := h i hi
    simp only [fellAt, bt] at this
    simp only [BitVec.getLsbD_and, BitVec.getLsbD_not, BitVec.getLsbD_zero, hi, decide_true, Bool.true_and]
    revert this
    cases c.getLsbD i <;> cases a.getLsbD i <;> simp
  have e2 : b &&& ~~~c = 0#32 := by
    refine BitVec.eq_of_getLsbD_eq fun i hi => ?_
    have := h i hi
    simp only [fellAt, bt] at this
    simp only [BitVec.getLsbD_and, BitVec.getLsbD_not, BitVec.getLsbD_zero, hi, decide_true, Bool.true_and]
    revert this
    cases c.getLsbD i <;> cases b.getLsbD i <;> simp
  unfold fellB; rw [e1, e2]; rfl
theorem fellB_no {a b c : BitVec 32} {i : Nat} (hi : i < 32) (h : fellAt a b c i = false) : fellB a b c = false := by
  unfold fellB
  rw [Bool.and_eq_false_iff, beq_eq_false_iff_ne, beq_eq_false_iff_ne]
  by_cases e : c.getLsbD i = true ∧ a.getLsbD i = false
  · left; intro h0
    have := congrArg (fun x => x.getLsbD i) h0
    simp only [BitVec.getLsbD_and, BitVec.getLsbD_not, BitVec.getLsbD_zero, hi, decide_true, Bool.true_and, e.1, e.2] at this
    cases this
  · right; intro h0
    have h1 := congrArg (fun x => x.getLsbD i) h0
    simp only [BitVec.getLsbD_and, BitVec.getLsbD_not, BitVec.getLsbD_zero, hi, decide_true, Bool.true_and] at h1
    simp only [fellAt, bt] at h
    revert h h1 e
    cases c.getLsbD i <;> cases a.getLsbD i <;> cases b.getLsbD i <;> simp
def roseAt (a b : BitVec 32) (i : Nat) : Bool := !(bt a i && !bt b i)
theorem roseB_all {a b : BitVec 32} (h : ∀ i, i < 32 → roseAt a b i = true) : roseB a b = true := by
  have e1 : a &&& ~~~b = 0#32 := by
    refine BitVec.eq_of_getLsbD_eq fun i hi => ?_
    have := h i hi
    simp only [roseAt, bt] at this
    simp only [BitVec.getLsbD_and, BitVec.getLsbD_not, BitVec.getLsbD_zero, hi, decide_true, Bool.true_and]
    revert this
    cases b.getLsbD i <;> cases a.getLsbD i <;> simp
  unfold roseB; rw [e1]; rfl
theorem roseB_no {a b : BitVec 32} {i : Nat} (hi : i < 32) (h : roseAt a b i = false) : roseB a b = false := by
  unfold roseB
  rw [beq_eq_false_iff_ne]
  intro h0
  have h1 := congrArg (fun x => x.getLsbD i) h0
  simp only [BitVec.getLsbD_and, BitVec.getLsbD_not, BitVec.getLsbD_zero, hi, decide_true, Bool.true_and] at h1
  simp only [roseAt, bt] at h
  revert h h1
  cases a.getLsbD i <;> cases b.getLsbD i <;> simp
theorem fellRef_any (a b c : BitVec 32) (w : World) : Calls Try.prog 24 #[.int .u32 (B a), .int .u32 (B b), .int .u32 (B c)] w fun e w' => e = .returned (.bool (fellB a b c)) ∧ w = w' := by
  go_enter Try.func24, Try.ntmps24
  go_wp2
  go_loop [7] (fun i => ∃ k : Nat, k ≤ 32 ∧ i = .int .u64 k ∧ Hid (∀ j, j < k → fellAt a b c j = true)) (fun i => 32 - (intOf i).toNat)
  case atStart => exact ⟨0, by omega, rfl, fun j hj => by omega⟩
  case round =>
    obtain ⟨k, hk, rfl, hall⟩ := hrel
    by_cases hlt : k < 32
    · cases hc : bt c k <;> cases ha : bt a k <;> cases hb : bt b k
      all_goals
        have HF : Hid (fellAt a b c k = !((bt c k && !bt a k) || (bt b k && !bt c k))) := rfl
        go_wp2_with (go_at_call 66; refine (bit_any _ _ hlt _).mono ?_; rintro e w' ⟨rfl, rfl⟩)
        first
          | (go_ret
             have h2 : fellAt a b c k = false := by rw [HF.out, hc, ha, hb]; rfl
             exact ⟨by rw [fellB_no hlt h2]; rfl, rfl⟩)
          | (go_round
             case rel =>
               have h2 : fellAt a b c k = true := by rw [HF.out, hc, ha, hb]; rfl
               exact ⟨k + 1, by omega, by go_num, fun j hj => by
                 rcases Nat.lt_or_ge j k with h | h
                 · exact hall.out j h
                 · have : j = k := by omega
                   rw [this]; exact h2⟩
             case measure => simp [intOf]; omega)
    · go_wp2
      go_ret
      exact ⟨by rw [fellB_all (fun i hi => hall.out i (by omega))]; rfl, rfl⟩
theorem roseRef_any (a b : BitVec 32) (w : World) : Calls Try.prog 25 #[.int .u32 (B a), .int .u32 (B b)] w fun e w' => e = .returned (.bool (roseB a b)) ∧ w = w' := by
  go_enter Try.func25, Try.ntmps25
  go_wp2
  go_loop [5] (fun i => ∃ k : Nat, k ≤ 32 ∧ i = .int .u64 k ∧ Hid (∀ j, j < k → roseAt a b j = true)) (fun i => 32 - (intOf i).toNat)
  case atStart => exact ⟨0, by omega, rfl, fun j hj => by omega⟩
  case round =>
    obtain ⟨k, hk, rfl, hall⟩ := hrel
    by_cases hlt : k < 32
    · cases ha : bt a k <;> cases hb : bt b k
      all_goals
        have HF : Hid (roseAt a b k = !(bt a k && !bt b k)) := rfl
        go_wp2_with (go_at_call 66; refine (bit_any _ _ hlt _).mono ?_; rintro e w' ⟨rfl, rfl⟩)
        first
          | (go_ret
             have h2 : roseAt a b k = false := by rw [HF.out, ha, hb]; rfl
             exact ⟨by rw [roseB_no hlt h2]; rfl, rfl⟩)
          | (go_round
             case rel =>
               have h2 : roseAt a b k = true := by rw [HF.out, ha, hb]; rfl
               exact ⟨k + 1, by omega, by go_num, fun j hj => by
                 rcases Nat.lt_or_ge j k with h | h
                 · exact hall.out j h
                 · have : j = k := by omega
                   rw [this]; exact h2⟩
             case measure => simp [intOf]; omega)
    · go_wp2
      go_ret
      exact ⟨by rw [roseB_all (fun i hi => hall.out i (by omega))]; rfl, rfl⟩
theorem pow_bd {k : Nat} (h : k < 32) : (2 : Nat) ^ k ≤ 2147483648 := Nat.pow_le_pow_right (n := 2) (by omega) (show k ≤ 31 by omega)
theorem add_pow (n k : Nat) (h1 : n < 2 ^ k) (h2 : 2 ^ k ≤ 2147483648) : ((n : Int) + 2 ^ k % 4294967296) % 4294967296 = ((n + 2 ^ k : Nat) : Int) := by
  have e : ((2 ^ k : Nat) : Int) = 2 ^ k := by simp
  rw [← e]; omega
theorem fallsRef_any (a b c : BitVec 32) (w : World) : Calls Try.prog 26 #[.int .u32 (B a), .int .u32 (B b), .int .u32 (B c)] w fun e w' => e = .returned (.int .u32 (B (a &&& (b ||| c)))) ∧ w = w' := by
  have HB : Hid ((bsum (fun i => bt a i && (bt b i || bt c i)) 32 : Int) = B (a &&& (b ||| c))) := bsum_word _ _ fun i hi => by simp only [bt, BitVec.getLsbD_and, BitVec.getLsbD_or]
  generalize hf : (fun i => bt a i && (bt b i || bt c i)) = f at HB
  have HF : Hid (∀ i, f i = (bt a i && (bt b i || bt c i))) := fun i => by rw [← hf]
  clear hf
  go_enter Try.func26, Try.ntmps26
  go_wp2
  go_loop [7, 8] (fun x i => ∃ k : Nat, k ≤ 32 ∧ i = .int .u64 k ∧ x = .int .u32 (bsum f k : Nat)) (fun _ i => 32 - (intOf i).toNat)
  case atStart => exact ⟨0, by omega, rfl, rfl⟩
  case round =>
    obtain ⟨k, hk, rfl, rfl⟩ := hrel
    by_cases hlt : k < 32
    · have HS : Hid (bsum f (k + 1) = bsum f k + if f k then 2 ^ k else 0) := rfl
      have h1 : bsum f k < 2 ^ k := bsum_lt f k
      have h2 : (2 : Nat) ^ k ≤ 2147483648 := pow_bd hlt
      have h3 : (0 : Int) ≤ ((2 ^ k : Nat) : Int) := by omega
      cases ha : bt a k <;> cases hb : bt b k <;> cases hc : bt c k
      all_goals
        go_wp2_with (go_at_call 66; refine (bit_any _ _ hlt _).mono ?_; rintro e w' ⟨rfl, rfl⟩)
        go_round
        case rel =>
          refine ⟨k + 1, by omega, by go_num, ?_⟩
          rw [HS.out, HF.out, ha, hb, hc]
          first
            | rfl
            | exact congrArg (Value.int .u32) (add_pow _ _ h1 h2)
        case measure => simp [intOf]; omega
    · have : k = 32 := by omega
      subst this
      go_wp2
      go_ret
      exact ⟨by rw [← HB.out]; rfl, rfl⟩
theorem risesRef_any (a b : BitVec 32) (w : World) : Calls Try.prog 27 #[.int .u32 (B a), .int .u32 (B b)] w fun e w' => e = .returned (.int .u32 (B (a ||| b))) ∧ w = w' := by
  have HB : Hid ((bsum (fun i => bt a i || bt b i) 32 : Int) = B (a ||| b)) := bsum_word _ _ fun i hi => by simp only [bt, BitVec.getLsbD_or]
  generalize hf : (fun i => bt a i || bt b i) = f at HB
  have HF : Hid (∀ i, f i = (bt a i || bt b i)) := fun i => by rw [← hf]
  clear hf
  go_enter Try.func27, Try.ntmps27
  go_wp2
  go_loop [5, 6] (fun x i => ∃ k : Nat, k ≤ 32 ∧ i = .int .u64 k ∧ x = .int .u32 (bsum f k : Nat)) (fun _ i => 32 - (intOf i).toNat)
  case atStart => exact ⟨0, by omega, rfl, rfl⟩
  case round =>
    obtain ⟨k, hk, rfl, rfl⟩ := hrel
    by_cases hlt : k < 32
    · have HS : Hid (bsum f (k + 1) = bsum f k + if f k then 2 ^ k else 0) := rfl
      have h1 : bsum f k < 2 ^ k := bsum_lt f k
      have h2 : (2 : Nat) ^ k ≤ 2147483648 := pow_bd hlt
      have h3 : (0 : Int) ≤ ((2 ^ k : Nat) : Int) := by omega
      cases ha : bt a k <;> cases hb : bt b k
      all_goals
        go_wp2_with (go_at_call 66; refine (bit_any _ _ hlt _).mono ?_; rintro e w' ⟨rfl, rfl⟩)
        go_round
        case rel =>
          refine ⟨k + 1, by omega, by go_num, ?_⟩
          rw [HS.out, HF.out, ha, hb]
          first
            | rfl
            | exact congrArg (Value.int .u32) (add_pow _ _ h1 h2)
        case measure => simp [intOf]; omega
    · have : k = 32 := by omega
      subst this
      go_wp2
      go_ret
      exact ⟨by rw [← HB.out]; rfl, rfl⟩
end Go.Proofs.Ytgcpfmdldgmbnaa
