/-
  Plain facts on 32-bit words: Go's bit operations on uint32 as operations on BitVec 32.
-/
import Derived.Test.YtgelgpcpllmnkaaRows
import Derived.WalkKit
namespace Go.Proofs.Ytgelgpcpllmnkaa
open Go.RowKit
def B (x : BitVec 32) : Int := (x.toNat : Int)
theorem B_lt (x : BitVec 32) : x.toNat < 4294967296 := x.isLt
theorem ofInt_B (x : BitVec 32) : BitVec.ofInt 32 (B x) = x := by
  unfold B; rw [BitVec.ofInt_natCast]; exact BitVec.eq_of_toNat_eq (by simp)
theorem wrap_B (x : BitVec 32) : IntKind.u32.wrap (x.toNat : Int) = B x := by
  rw [IntKind.wrap_u32']; have := B_lt x; unfold B; omega
theorem B_and (x y : BitVec 32) : bits .and .u32 (B x) (B y) = B (x &&& y) := by
  show IntKind.u32.wrap ((BitVec.ofInt 32 (B x) &&& BitVec.ofInt 32 (B y)).toNat : Int) = _
  rw [ofInt_B, ofInt_B, wrap_B]
theorem B_or (x y : BitVec 32) : bits .or .u32 (B x) (B y) = B (x ||| y) := by
  show IntKind.u32.wrap ((BitVec.ofInt 32 (B x) ||| BitVec.ofInt 32 (B y)).toNat : Int) = _
  rw [ofInt_B, ofInt_B, wrap_B]
theorem B_xor (x y : BitVec 32) : bits .xor .u32 (B x) (B y) = B (x ^^^ y) := by
  show IntKind.u32.wrap ((BitVec.ofInt 32 (B x) ^^^ BitVec.ofInt 32 (B y)).toNat : Int) = _
  rw [ofInt_B, ofInt_B, wrap_B]
theorem B_andNot (x y : BitVec 32) : bits .andNot .u32 (B x) (B y) = B (x &&& ~~~y) := by
  show IntKind.u32.wrap ((BitVec.ofInt 32 (B x) &&& ~~~BitVec.ofInt 32 (B y)).toNat : Int) = _
  rw [ofInt_B, ofInt_B, wrap_B]
theorem B_not (x : BitVec 32) : bits .xor .u32 IntKind.u32.max (B x) = B (~~~x) := by
  show IntKind.u32.wrap ((BitVec.ofInt 32 (IntKind.u32.max) ^^^ BitVec.ofInt 32 (B x)).toNat : Int) = _
  rw [ofInt_B, wrap_B, show BitVec.ofInt 32 IntKind.u32.max = BitVec.allOnes 32 by decide, BitVec.allOnes_xor]
theorem B_eq {x y : BitVec 32} : B x = B y ↔ x = y := by
  unfold B; constructor
  · intro h; exact BitVec.eq_of_toNat_eq (by omega)
  · rintro rfl; rfl
theorem B_inj (x y : BitVec 32) : (B x == B y) = (x == y) := by
  rw [Bool.eq_iff_iff, beq_iff_eq, beq_iff_eq, B_eq]
theorem B_zero (x : BitVec 32) : (B x == 0) = (x == 0#32) := by
  rw [show (0 : Int) = B 0#32 by decide]; exact B_inj _ _
theorem wf_bd {a : Int} (h : (Lit.int .u32 a).wf = true) : 0 ≤ a ∧ a < 4294967296 := by
  have h' : 0 ≤ a ∧ a ≤ 4294967295 := by simpa [Lit.wf, IntKind.min, IntKind.max, IntKind.signed, IntKind.bits] using h
  omega
theorem wf_B {a : Int} (h : (Lit.int .u32 a).wf = true) : ∃ x, a = B x := by
  have h' := wf_bd h
  refine ⟨BitVec.ofNat 32 a.toNat, ?_⟩
  unfold B; rw [BitVec.toNat_ofNat, Nat.mod_eq_of_lt (by omega)]; omega
theorem B_wf (x : BitVec 32) : (Lit.int .u32 (B x)).wf = true := by
  have := B_lt x
  unfold B; exact WalkArith.wf_u32 (by omega)
/-- A word's bit, behind a name. -/
def bt (x : BitVec 32) (i : Nat) : Bool := x.getLsbD i
/-- 'w>>i%2 == 1' on a word. -/
theorem B_bit (x : BitVec 32) (i : Nat) : ((B x / 2 ^ i).tmod 2 == 1) = bt x i := by
  unfold B bt
  have e1 : ((x.toNat : Int) / 2 ^ i) = ((x.toNat / 2 ^ i : Nat) : Int) := by simp
  rw [e1, BitVec.getLsbD, Nat.testBit_eq_decide_div_mod_eq]
  generalize x.toNat / 2 ^ i = m
  have e2 : ((m : Int).tmod 2) = ((m % 2 : Nat) : Int) := by rw [Int.tmod_eq_emod_of_nonneg (by omega)]; simp
  rw [e2, Bool.eq_iff_iff, beq_iff_eq, decide_eq_true_iff]
  omega
/-- A word out of its bits: the sum of the powers of the bits below k. -/
def bsum (f : Nat → Bool) : Nat → Nat
  | 0 => 0
  | k + 1 => bsum f k + if f k then 2 ^ k else 0
theorem bsum_lt (f : Nat → Bool) (k : Nat) : bsum f k < 2 ^ k := by
  induction k with
  | zero => simp [bsum]
  | succ k ih => simp only [bsum, Nat.pow_succ]; split <;> omega
theorem bsum_congr {f g : Nat → Bool} (k : Nat) (h : ∀ i, i < k → f i = g i) : bsum f k = bsum g k := by
  induction k with
  | zero => rfl
  | succ k ih => simp only [bsum]; rw [ih (fun i hi => h i (by omega)), h k (by omega)]
theorem bsum_bits (x : Nat) (k : Nat) : bsum x.testBit k = x % 2 ^ k := by
  induction k with
  | zero => simp [bsum, Nat.mod_one]
  | succ k ih =>
    simp only [bsum]
    rw [ih, Nat.testBit_eq_decide_div_mod_eq, Nat.pow_succ, Nat.mod_mul]
    have := Nat.mod_lt (x / 2 ^ k) (show 2 > 0 by omega)
    by_cases h : x / 2 ^ k % 2 = 1
    · simp [h]
    · have : x / 2 ^ k % 2 = 0 := by omega
      simp [this]
theorem bsum_word (x : BitVec 32) (f : Nat → Bool) (h : ∀ i, i < 32 → f i = x.getLsbD i) : (bsum f 32 : Int) = B x := by
  rw [bsum_congr (g := x.toNat.testBit) 32 (fun i hi => h i hi), bsum_bits]
  unfold B; have := B_lt x; omega
end Go.Proofs.Ytgelgpcpllmnkaa
