/-
  Contracts of crc.Words, of the law's own functions, and of the document's sum.
-/
import Derived.Test.YtgcpfmdldgmbnaaCrc
namespace Go.Proofs.Ytgcpfmdldgmbnaa
open Go.RowKit
theorem wordsC_succ (t : BitVec 32) (f : Nat → BitVec 32) (k : Nat) : wordsC t ((List.range (k + 1)).map f) = wordC (wordsC t ((List.range k).map f)) (f k) := by
  unfold wordsC
  rw [List.range_succ, List.map_append, List.foldl_append]; rfl
theorem bytesC_succ (t : BitVec 32) (f : Nat → BitVec 8) (k : Nat) : bytesC t ((List.range (k + 1)).map f) = byteC (bytesC t ((List.range k).map f)) (f k) := by
  unfold bytesC
  rw [List.range_succ, List.map_append, List.foldl_append]; rfl
theorem value_any (p : Nat) (t : BitVec 32) (m : Int) (w : World) (h : SumAt w p t m) : Calls Try.prog 37 #[.pointer (some ⟨p, 0, none⟩)] w fun e w' => e = .returned (.int .u32 (B t)) ∧ w = w' := by
  obtain ⟨h0, h1, f0, f1⟩ := h
  go_enter Try.func37, Try.ntmps37
  go_wp2
  go_ret
  exact ⟨rfl, rfl⟩
theorem many_any (p : Nat) (t : BitVec 32) (m : Int) (w : World) (h : SumAt w p t m) : Calls Try.prog 38 #[.pointer (some ⟨p, 0, none⟩)] w fun e w' => e = .returned (.int .i64 m) ∧ w = w' := by
  obtain ⟨h0, h1, f0, f1⟩ := h
  go_enter Try.func38, Try.ntmps38
  go_wp2
  go_ret
  exact ⟨rfl, rfl⟩
theorem grown_below {w w' : World} {r : Nat} {B : Nat} (h : w.grownBy w' (some r)) (hr : B ≤ r) (hB : B ≤ w.heap.size) : Below B w w' := (Below.refl B w).grown h hB fun k hk => by cases hk; exact hr
theorem words_any (ao : Option Addr) (n cap : Nat) (f : Nat → BitVec 32) (w : World) (hr : Row w ao n (fun i => .int .u32 (B (f i)))) (hn : n ≤ 600) :
    Calls Try.prog 31 #[.slice ao n cap] w fun e w' => e = .returned (.int .u32 (B (wordsC 0#32 ((List.range n).map f)))) ∧ Below w.heap.size w w' := by
  have hnew := SumAt.new w 51
  go_enter Try.func31, Try.ntmps31
  go_wp2
  generalize hW : w.alloc (Obj.cells #[Value.int IntKind.u32 0, Value.int IntKind.i64 0] 51) = W at hnew
  have hb : Below w.heap.size w W := by rw [← hW]; exact (Below.refl _ _).alloc (Nat.le_refl _) _
  have hsz : W.heap.size = w.heap.size + 1 := by rw [← hW]; simp [go_sem]
  clear hW
  go_loopw [5, 9] (fun _ i wr => ∃ k : Nat, k ≤ n ∧ i = .int .i64 k ∧ SumAt wr w.heap.size (wordsC 0#32 ((List.range k).map f)) (4 * k) ∧ Row wr ao n (fun i => .int .u32 (B (f i))) ∧ Below w.heap.size w wr) (fun _ i _ => n - (intOf i).toNat)
  case atStart => exact ⟨0, by omega, rfl, by simpa [wordsC] using hnew, hr.below hb, hb⟩
  case round =>
    obtain ⟨k, hk, rfl, hs, hrow, hbr⟩ := hrel
    by_cases hlt : k < n
    · obtain ⟨b, o, rfl, hc⟩ := hrow k hlt
      have hbl := hr.lt hlt rfl
      go_wp2_with (go_at_call 34; refine (word_any w.heap.size _ _ _ _ hs (by omega) (by omega)).mono ?_; rintro e w1 ⟨⟨v, rfl⟩, hs1, hg1⟩)
      go_roundw
      case rel => exact ⟨k + 1, by omega, by go_num, by rw [wordsC_succ, show 4 * ((k + 1 : Nat) : Int) = 4 * (k : Int) + 4 by omega]; exact hs1, hrow.grown hg1 (fun b' o' e => by cases e; simp; omega), hbr.trans (grown_below hg1 (Nat.le_refl _) hbr.size)⟩
      case measure => simp [intOf]; omega
    · obtain rfl : k = n := by omega
      go_wp2_with (go_at_call 37; refine (value_any w.heap.size _ _ _ hs).mono ?_; rintro e w1 ⟨rfl, rfl⟩)
      go_ret
      exact ⟨rfl, hbr⟩
theorem sum_any (ao : Option Addr) (n cap : Nat) (f : Nat → BitVec 8) (w : World) (hr : Row w ao n (fun i => .int .u8 (B8 (f i)))) (hn : n ≤ 3000) :
    Calls Try.prog 33 #[.slice ao n cap] w fun e w' => e = .returned (.pointer (some ⟨w.heap.size, 0, none⟩)) ∧ SumAt w' w.heap.size (bytesC 0#32 ((List.range n).map f)) n ∧ Below w.heap.size w w' ∧ w.heap.size < w'.heap.size := by
  have hnew := SumAt.new w 51
  go_enter Try.func33, Try.ntmps33
  go_wp2
  generalize hW : w.alloc (Obj.cells #[Value.int IntKind.u32 0, Value.int IntKind.i64 0] 51) = W at hnew
  have hb : Below w.heap.size w W := by rw [← hW]; exact (Below.refl _ _).alloc (Nat.le_refl _) _
  have hsz : W.heap.size = w.heap.size + 1 := by rw [← hW]; simp [go_sem]
  clear hW
  go_loopw [4] (fun i wr => ∃ k : Nat, k ≤ n ∧ i = .int .i64 k ∧ SumAt wr w.heap.size (bytesC 0#32 ((List.range k).map f)) k ∧ Row wr ao n (fun i => .int .u8 (B8 (f i))) ∧ Below w.heap.size w wr) (fun i _ => n - (intOf i).toNat)
  case atStart => exact ⟨0, by omega, rfl, by simpa [bytesC] using hnew, hr.below hb, hb⟩
  case round =>
    obtain ⟨k, hk, rfl, hs, hrow, hbr⟩ := hrel
    by_cases hlt : k < n
    · obtain ⟨b, o, rfl, hc⟩ := hrow k hlt
      have hbl := hr.lt hlt rfl
      go_wp2_with (go_at_call 67; refine (byte_any w.heap.size _ _ _ _ hs (by omega) (by omega)).mono ?_; rintro e w1 ⟨⟨v, rfl⟩, hs1, hg1⟩)
      go_roundw
      case rel => exact ⟨k + 1, by omega, by go_num, by rw [bytesC_succ, show ((k + 1 : Nat) : Int) = (k : Int) + 1 by omega]; exact hs1, hrow.grown hg1 (fun b' o' e => by cases e; simp; omega), hbr.trans (grown_below hg1 (Nat.le_refl _) hbr.size)⟩
      case measure => simp [intOf]; omega
    · obtain rfl : k = n := by omega
      go_wp2
      go_ret
      exact ⟨rfl, hs, hbr, cell_lt hs.1⟩
theorem B_of (x : BitVec 32) : B (BitVec.ofNat 32 (B x).toNat) = B x := by
  have : BitVec.ofNat 32 (B x).toNat = x := by
    unfold B
    rw [Int.toNat_natCast]
    exact BitVec.eq_of_toNat_eq (by simp)
  rw [this]
/-- A slice of words that came in, as words. -/
theorem words_of {w : World} {ao : Option Addr} {n : Nat} {zs : List Int} (h : Row w ao n (fun i => .int .u32 (zs.getD i 0))) (hl : zs.length = n) (hw : ∀ z ∈ zs, (Lit.int .u32 z).wf = true) : ∃ f : Nat → BitVec 32, Row w ao n (fun i => .int .u32 (B (f i))) := by
  refine ⟨fun i => BitVec.ofNat 32 (zs.getD i 0).toNat, h.congr fun i hi => ?_⟩
  obtain ⟨x, hx⟩ := wf_B (hw (zs.getD i 0) (by simp [List.getD, hl, hi]))
  show Value.int .u32 (zs.getD i 0) = Value.int .u32 (B (BitVec.ofNat 32 (zs.getD i 0).toNat))
  rw [hx, B_of]
/-- A slice of bytes that came in, as bytes. -/
theorem bytes_of {w : World} {ao : Option Addr} {n : Nat} {zs : List Int} (h : Row w ao n (fun i => .int .u8 (zs.getD i 0))) (hl : zs.length = n) (hw : ∀ z ∈ zs, (Lit.int .u8 z).wf = true) : ∃ f : Nat → BitVec 8, Row w ao n (fun i => .int .u8 (B8 (f i))) := by
  refine ⟨fun i => BitVec.ofNat 8 (zs.getD i 0).toNat, h.congr fun i hi => ?_⟩
  have := hw (zs.getD i 0) (by simp [List.getD, hl, hi])
  have h' : 0 ≤ zs.getD i 0 ∧ zs.getD i 0 ≤ 255 := by simpa [Lit.wf, IntKind.min, IntKind.max, IntKind.signed, IntKind.bits] using this
  congr 1
  unfold B8
  rw [BitVec.toNat_ofNat]
  omega
end Go.Proofs.Ytgcpfmdldgmbnaa
