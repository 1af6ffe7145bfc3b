/-
  Contracts of the package pair and of the document's layer 5.
-/
import Derived.Test.YtgcpfmdldgmbnaaBits
import Derived.Test.YtgcpfmdldgmbnaaKit
namespace Go.Proofs.Ytgcpfmdldgmbnaa
open Go.RowKit
theorem of_raw (a : Int) (w : World) : Calls Try.prog 15 #[.int .u32 a] w fun e w' => e = .returned (.agg #[.int .u32 a, .int .u32 (bits .xor .u32 IntKind.u32.max a)]) ∧ w.alloc (.cells #[.int .u32 a, .int .u32 (bits .xor .u32 IntKind.u32.max a)] 24) = w' := by
  go_enter Try.func15, Try.ntmps15
  go_wp2
  exact bodyPost_ret (v := .agg #[.int .u32 a, .int .u32 (bits .xor .u32 IntKind.u32.max a)]) (by simp [results, Try.results15, go_sem]) rfl ⟨rfl, rfl⟩
theorem falls_raw (a b c : Int) (w : World) : Calls Try.prog 16 #[.int .u32 a, .int .u32 b, .int .u32 c] w fun e w' => e = .returned (.int .u32 (bits .and .u32 a (bits .or .u32 b c))) ∧ w = w' := by
  go_enter Try.func16, Try.ntmps16
  go_wp2
  go_ret
  exact ⟨rfl, rfl⟩
theorem rises_raw (a b : Int) (w : World) : Calls Try.prog 17 #[.int .u32 a, .int .u32 b] w fun e w' => e = .returned (.int .u32 (bits .or .u32 a b)) ∧ w = w' := by
  go_enter Try.func17, Try.ntmps17
  go_wp2
  go_ret
  exact ⟨rfl, rfl⟩
theorem right_raw (a b : Int) (w : World) : Calls Try.prog 20 #[.agg #[.int .u32 a, .int .u32 b]] w fun e w' => e = .returned (.bool (b == bits .xor .u32 IntKind.u32.max a)) ∧ w.alloc (.cells #[.int .u32 a, .int .u32 b] 24) = w' := by
  go_enter Try.func20, Try.ntmps20
  go_wp2
  go_ret
  exact ⟨rfl, rfl⟩
def aliveB : Bool := true
theorem pairAlive_any (w : World) : Calls Try.prog 21 #[] w fun e w' => e = .returned (.bool true) ∧ Grown w w' := by
  go_enter Try.func21, Try.ntmps21
  go_wp2_with (first | (go_at_call 15; refine (of_raw _ _).mono ?_; rintro e w' ⟨rfl, rfl⟩) | (go_at_call 16; refine (falls_raw _ _ _ _).mono ?_; rintro e w' ⟨rfl, rfl⟩) | (go_at_call 20; refine (right_raw _ _ _).mono ?_; rintro e w' ⟨rfl, rfl⟩))
  go_ret
  exact ⟨rfl, (((Grown.refl _).alloc _ _).alloc _ _).alloc _ _⟩
section
attribute [local go_sem] B_and B_or B_xor B_andNot B_not B_inj B_zero
theorem falls_any (a b c : BitVec 32) (w : World) : Calls Try.prog 16 #[.int .u32 (B a), .int .u32 (B b), .int .u32 (B c)] w fun e w' => e = .returned (.int .u32 (B (a &&& (b ||| c)))) ∧ w = w' := by
  simpa only [B_or, B_and] using falls_raw (B a) (B b) (B c) w
theorem rises_any (a b : BitVec 32) (w : World) : Calls Try.prog 17 #[.int .u32 (B a), .int .u32 (B b)] w fun e w' => e = .returned (.int .u32 (B (a ||| b))) ∧ w = w' := by
  simpa only [B_or, B_and] using rises_raw (B a) (B b) w
theorem of_any (a : BitVec 32) (w : World) : Calls Try.prog 15 #[.int .u32 (B a)] w fun e w' => e = .returned (.agg #[.int .u32 (B a), .int .u32 (B (~~~a))]) ∧ w.alloc (.cells #[.int .u32 (B a), .int .u32 (B (~~~a))] 24) = w' := by
  simpa only [B_not] using of_raw (B a) w
theorem right_any (a b : BitVec 32) (w : World) : Calls Try.prog 20 #[.agg #[.int .u32 (B a), .int .u32 (B b)]] w fun e w' => e = .returned (.bool (b == ~~~a)) ∧ w.alloc (.cells #[.int .u32 (B a), .int .u32 (B b)] 24) = w' := by
  simpa only [B_not, B_inj] using right_raw (B a) (B b) w
def fellB (a b c : BitVec 32) : Bool := c &&& ~~~a == 0#32 && b &&& ~~~c == 0#32
def roseB (a b : BitVec 32) : Bool := a &&& ~~~b == 0#32
theorem fell_any (a b c : BitVec 32) (w : World) : Calls Try.prog 18 #[.int .u32 (B a), .int .u32 (B b), .int .u32 (B c)] w fun e w' => e = .returned (.bool (fellB a b c)) ∧ w = w' := by
  by_cases h : (c &&& ~~~a == 0#32) = true
  · have H : Hid (fellB a b c = (b &&& ~~~c == 0#32)) := by unfold fellB; rw [h]; rfl
    go_enter Try.func18, Try.ntmps18
    go_wp2
    go_ret
    exact ⟨by rw [H.out]; rfl, rfl⟩
  · have H : Hid (fellB a b c = false) := by
      show _ = _
      unfold fellB; rw [Bool.eq_false_iff.2 h]; rfl
    go_enter Try.func18, Try.ntmps18
    go_wp2
    go_ret
    exact ⟨by rw [H.out]; rfl, rfl⟩
theorem rose_any (a b : BitVec 32) (w : World) : Calls Try.prog 19 #[.int .u32 (B a), .int .u32 (B b)] w fun e w' => e = .returned (.bool (roseB a b)) ∧ w = w' := by
  go_enter Try.func19, Try.ntmps19
  go_wp2
  go_ret
  exact ⟨rfl, rfl⟩
end
/-! the document's -/
theorem bit_any (x : BitVec 32) (i : Nat) (hi : i < 32) (w : World) : Calls Try.prog 66 #[.int .u32 (B x), .int .u64 (i : Int)] w fun e w' => e = .returned (.bool (bt x i)) ∧ w = w' := by
  have H := hid (B_bit x i)
  go_enter Try.func66, Try.ntmps66
  go_wp2
  go_ret
  exact ⟨by rw [← H.out]; rfl, rfl⟩
theorem otherRef_any (x : BitVec 32) (w : World) : Calls Try.prog 22 #[.int .u32 (B x)] w fun e w' => e = .returned (.int .u32 (B (~~~x))) ∧ w = w' := by
  have H : Hid (B (~~~x) = (4294967295 - B x) % 4294967296) := by
    show _ = _
    have := B_lt x
    unfold B; rw [BitVec.toNat_not]; omega
  go_enter Try.func22, Try.ntmps22
  go_wp2
  go_ret
  exact ⟨by rw [H.out]; rfl, rfl⟩
end Go.Proofs.Ytgcpfmdldgmbnaa
