/-
  Contracts of the package crc and of the document's layer 4.
-/
import Derived.Test.YtgcpfmdldgmbnaaCrcMath
import Derived.Test.YtgcpfmdldgmbnaaRow
namespace Go.Proofs.Ytgcpfmdldgmbnaa
open Go.RowKit
/-- A byte as Go's integer. -/
def B8 (x : BitVec 8) : Int := (x.toNat : Int)
theorem B8_lt (x : BitVec 8) : x.toNat < 256 := x.isLt
theorem B8_u32 (x : BitVec 8) : B8 x % 4294967296 = B (x.setWidth 32) := by
  unfold B8 B
  have := B8_lt x
  rw [BitVec.toNat_setWidth]; omega
theorem B8_u32' (x : BitVec 8) : IntKind.u32.wrap (B8 x) = B (x.setWidth 32) := by rw [IntKind.wrap_u32', B8_u32]
theorem B8_u32'' (x : BitVec 8) : B8 x = B (x.setWidth 32) := by
  unfold B8 B
  have := B8_lt x
  rw [BitVec.toNat_setWidth]; omega
theorem B_byte (x : BitVec 32) (s : Nat) : B x / ((2 ^ s : Nat) : Int) % 256 = B8 ((x >>> s).setWidth 8) := by
  unfold B8 B
  rw [BitVec.toNat_setWidth, BitVec.toNat_ushiftRight, Nat.shiftRight_eq_div_pow]
  omega
theorem B_half (x : BitVec 32) : B x / (2 : Int) = B (x >>> 1) := by
  unfold B
  rw [BitVec.toNat_ushiftRight, Nat.shiftRight_eq_div_pow]
  omega
theorem B_and1 (x : BitVec 32) : bits .and .u32 (B x) 1 = B (x &&& 1#32) := by
  rw [show (1 : Int) = B 1#32 by decide, B_and]
theorem B_poly (x : BitVec 32) : bits .xor .u32 (B x) 3988292384 = B (x ^^^ poly) := by
  rw [show (3988292384 : Int) = B poly by decide, B_xor]
theorem B_zero0 : B 0#32 = 0 := by decide
theorem B_one1 : B 1#32 = 1 := by decide
theorem and1 (x : BitVec 32) : x &&& 1#32 = if bt x 0 then 1#32 else 0#32 := by
  refine BitVec.eq_of_getLsbD_eq fun i hi => ?_
  rw [BitVec.getLsbD_and, BitVec.getLsbD_one]
  cases i with
  | zero => simp [bt]; cases x[0] <;> simp
  | succ i => simp; split <;> simp
/-- A sum in the making lies at block p. -/
def SumAt (w : World) (p : Nat) (t : BitVec 32) (m : Int) : Prop :=
  w.cell? ⟨p, 0, none⟩ = some (.int .u32 (B t)) ∧ w.cell? ⟨p, 1, none⟩ = some (.int .i64 m) ∧ w.frozen? ⟨p, 0, none⟩ = false ∧ w.frozen? ⟨p, 1, none⟩ = false
theorem SumAt.below {w w' : World} {p : Nat} {t : BitVec 32} {m : Int} (h : SumAt w p t m) (hb : Below w.heap.size w w') : SumAt w' p t m :=
  have hl : p < w.heap.size := cell_lt h.1
  ⟨(hb.cell (p := ⟨p, 0, none⟩) hl).trans h.1, (hb.cell (p := ⟨p, 1, none⟩) hl).trans h.2.1, (hb.frozen (p := ⟨p, 0, none⟩) hl).trans h.2.2.1, (hb.frozen (p := ⟨p, 1, none⟩) hl).trans h.2.2.2⟩
theorem SumAt.new (w : World) (t : TypeId) : SumAt (w.alloc (.cells #[.int .u32 0, .int .i64 0] t)) w.heap.size 0#32 0 :=
  ⟨World.cell?_alloc_at _ _ _ _ rfl, World.cell?_alloc_at _ _ _ _ rfl, World.frozen?_alloc_at _ _ _ _ rfl, World.frozen?_alloc_at _ _ _ _ rfl⟩
theorem SumAt.set {w : World} {p : Nat} {t t' : BitVec 32} {m m' : Int} (h : SumAt w p t m) : SumAt ((w.setCell ⟨p, 0, none⟩ (.int .u32 (B t'))).setCell ⟨p, 1, none⟩ (.int .i64 m')) p t' m' := by
  obtain ⟨h0, h1, f0, f1⟩ := h
  refine ⟨?_, ?_, by simpa using f0, by simpa using f1⟩
  · simp [go_sem, h0]
  · simp [go_sem, h1]
theorem two_grown (w : World) (p : Nat) (u v : Value) : w.grownBy ((w.setCell ⟨p, 0, none⟩ u).setCell ⟨p, 1, none⟩ v) (some p) :=
  ⟨rfl, rfl, rfl, by simp, fun k _ hne => by
    have hne' : k ≠ p := fun e => hne (by rw [e])
    rw [Below.heap_setCell _ _ _ _ hne', Below.heap_setCell _ _ _ _ hne']⟩
section
attribute [local go_sem] B_and B_or B_xor B_andNot B_not B_inj B_zero B8_u32 B8_u32' B_half B_and1 B_poly B_zero0 B_one1
theorem byte_any (p : Nat) (t : BitVec 32) (m : Int) (b : BitVec 8) (w : World) (h : SumAt w p t m) (hm : 0 ≤ m) (hm2 : m ≤ 1000000) :
    Calls Try.prog 67 #[.pointer (some ⟨p, 0, none⟩), .int .u8 (B8 b)] w fun e w' => (∃ v, e = .returned v) ∧ SumAt w' p (byteC t b) (m + 1) ∧ w.grownBy w' (some p) := by
  obtain ⟨h0, h1, f0, f1⟩ := h
  have HS : Hid (SumAt w p t m) := ⟨h0, h1, f0, f1⟩
  go_enter Try.func67, Try.ntmps67
  go_wp2
  go_loop [4, 5, 14] (fun x _ i => ∃ k : Nat, k ≤ 8 ∧ i = .int .i64 k ∧ x = .int .u32 (B (stpn k (~~~t ^^^ b.setWidth 32)))) (fun _ _ i => 8 - (intOf i).toNat)
  case atStart => exact ⟨0, by omega, rfl, rfl⟩
  case round =>
    obtain ⟨k, hk, rfl, rfl⟩ := hrel
    by_cases hlt : k < 8
    · have HK : Hid (stpn (k + 1) (~~~t ^^^ b.setWidth 32) = stp (stpn k (~~~t ^^^ b.setWidth 32))) := rfl
      generalize stpn k (~~~t ^^^ b.setWidth 32) = y at HK ⊢
      have ha := and1 y
      have HY : Hid (stp y = if bt y 0 then (y >>> 1) ^^^ poly else y >>> 1) := rfl
      cases hb : bt y 0
      · rw [hb] at ha
        simp only [Bool.false_eq_true, if_false] at ha
        go_wp2
        go_round
        case rel => exact ⟨k + 1, by omega, by go_num, by rw [HK.out, HY.out, hb]; rfl⟩
        case measure => simp [intOf]; omega
      · rw [hb] at ha
        simp only [if_true] at ha
        go_wp2
        go_round
        case rel => exact ⟨k + 1, by omega, by go_num, by rw [HK.out, HY.out, hb]; rfl⟩
        case measure => simp [intOf]; omega
    · have : k = 8 := by omega
      subst this
      have HB : Hid (byteC t b = ~~~(stpn 8 (~~~t ^^^ b.setWidth 32))) := rfl
      generalize stpn 8 (~~~t ^^^ b.setWidth 32) = y at HB ⊢
      have HG := hid (two_grown w p)
      go_wp2
      go_end0
      refine ⟨⟨_, rfl⟩, ?_, HG.out _ _⟩
      rw [HB.out]
      exact SumAt.set HS.out
theorem wordB_at (w : BitVec 32) : wordB w = [(w >>> 24).setWidth 8, (w >>> 16).setWidth 8, (w >>> 8).setWidth 8, w.setWidth 8] := rfl
theorem bytesC_take (t w : BitVec 32) (k : Nat) (b : BitVec 8) (hb : (wordB w)[k]? = some b) : bytesC t ((wordB w).take (k + 1)) = byteC (bytesC t ((wordB w).take k)) b := by
  rw [List.take_add_one, hb]
  unfold bytesC
  rw [List.foldl_append]; rfl
theorem B_byte24 (x : BitVec 32) : B x / (16777216 : Int) % (256 : Int) = B8 ((x >>> 24).setWidth 8) := B_byte x 24
theorem B_byte16 (x : BitVec 32) : B x / (65536 : Int) % (256 : Int) = B8 ((x >>> 16).setWidth 8) := B_byte x 16
theorem B_byte8 (x : BitVec 32) : B x / (256 : Int) % (256 : Int) = B8 ((x >>> 8).setWidth 8) := B_byte x 8
theorem B_byte0 (x : BitVec 32) : B x % (256 : Int) = B8 (x.setWidth 8) := by
  have := B_byte x 0
  simpa using this
theorem B_byte1 (x : BitVec 32) : B x / (1 : Int) % (256 : Int) = B8 (x.setWidth 8) := by
  rw [Int.ediv_one]; exact B_byte0 x
theorem grown_trans {a b c : World} {r : Nat} (h1 : a.grownBy b (some r)) (h2 : b.grownBy c (some r)) : a.grownBy c (some r) :=
  ⟨h2.os.trans h1.os, h2.tape.trans h1.tape, h2.output.trans h1.output, Nat.le_trans h1.size h2.size, fun k hk hne => (h2.block k (Nat.lt_of_lt_of_le hk h1.size) hne).trans (h1.block k hk hne)⟩
attribute [local go_sem] B_byte24 B_byte16 B_byte8 B_byte0 B_byte1
theorem word_step {w : World} {p : Nat} {t x : BitVec 32} {m : Int} {k : Nat} {b : BitVec 8} (hs : SumAt w p (byteC (bytesC t ((wordB x).take k)) b) (m + (k : Int) + 1)) (hb : (wordB x)[k]? = some b) :
    SumAt w p (bytesC t ((wordB x).take (k + 1))) (m + ((k + 1 : Nat) : Int)) := by
  rw [bytesC_take t x k b hb, show m + ((k + 1 : Nat) : Int) = m + (k : Int) + 1 by omega]; exact hs
theorem word_any (p : Nat) (t : BitVec 32) (m : Int) (x : BitVec 32) (w : World) (h : SumAt w p t m) (hm : 0 ≤ m) (hm2 : m ≤ 999000) :
    Calls Try.prog 34 #[.pointer (some ⟨p, 0, none⟩), .int .u32 (B x)] w fun e w' => (∃ v, e = .returned v) ∧ SumAt w' p (wordC t x) (m + 4) ∧ w.grownBy w' (some p) := by
  go_enter Try.func34, Try.ntmps34
  go_wp2
  go_loopw [4, 5] (fun _ i wr => ∃ k : Nat, k ≤ 4 ∧ i = .int .i64 k ∧ SumAt wr p (bytesC t ((wordB x).take k)) (m + k) ∧ w.grownBy wr (some p)) (fun _ i _ => 4 - (intOf i).toNat)
  case atStart => exact ⟨0, by omega, rfl, by simpa [bytesC] using h, World.grownBy.refl _ _⟩
  case round =>
    obtain ⟨k, hk, rfl, hs, hg⟩ := hrel
    by_cases hlt : k < 4
    · obtain rfl | rfl | rfl | rfl : k = 0 ∨ k = 1 ∨ k = 2 ∨ k = 3 := by omega
      · go_wp2_with (go_at_call 67; rw [B_byte24]; refine (byte_any p _ _ _ _ hs (by omega) (by omega)).mono ?_; rintro e w1 ⟨⟨v, rfl⟩, hs1, hg1⟩)
        go_roundw
        case rel => exact ⟨0 + 1, by omega, by rfl, word_step (k := 0) hs1 (by rw [wordB_at]; rfl), grown_trans hg hg1⟩
        case measure => simp [intOf]
      · go_wp2_with (go_at_call 67; rw [B_byte16]; refine (byte_any p _ _ _ _ hs (by omega) (by omega)).mono ?_; rintro e w1 ⟨⟨v, rfl⟩, hs1, hg1⟩)
        go_roundw
        case rel => exact ⟨1 + 1, by omega, by rfl, word_step (k := 1) hs1 (by rw [wordB_at]; rfl), grown_trans hg hg1⟩
        case measure => simp [intOf]
      · go_wp2_with (go_at_call 67; rw [B_byte8]; refine (byte_any p _ _ _ _ hs (by omega) (by omega)).mono ?_; rintro e w1 ⟨⟨v, rfl⟩, hs1, hg1⟩)
        go_roundw
        case rel => exact ⟨2 + 1, by omega, by rfl, word_step (k := 2) hs1 (by rw [wordB_at]; rfl), grown_trans hg hg1⟩
        case measure => simp [intOf]
      · go_wp2_with (go_at_call 67; refine (byte_any p _ _ _ _ hs (by omega) (by omega)).mono ?_; rintro e w1 ⟨⟨v, rfl⟩, hs1, hg1⟩)
        go_roundw
        case rel => exact ⟨3 + 1, by omega, by rfl, word_step (k := 3) hs1 (by rw [wordB_at]; rfl), grown_trans hg hg1⟩
        case measure => simp [intOf]
    · have : k = 4 := by omega
      subst this
      go_wp2
      go_end0
      exact ⟨⟨_, rfl⟩, hs, hg⟩
end
end Go.Proofs.Ytgcpfmdldgmbnaa
