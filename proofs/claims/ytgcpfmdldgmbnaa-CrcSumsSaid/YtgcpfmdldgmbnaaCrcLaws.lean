/-
  The walks of layer 4's laws: CrcBit.
-/
import Derived.Test.YtgcpfmdldgmbnaaCrcFns
import Derived.Test.YtgcpfmdldgmbnaaPairMasks
import Derived.Lib.SlBytesConst
namespace Go.Proofs.Ytgcpfmdldgmbnaa
open Go.RowKit
theorem B_pow {k : Nat} (hk : k < 32) : (2 : Int) ^ k % 4294967296 = B (1#32 <<< k) := by
  unfold B
  rw [BitVec.toNat_shiftLeft, Nat.shiftLeft_eq]
  have h1 : (2 : Nat) ^ k ≤ 2147483648 := pow_bd hk
  have e : ((2 ^ k : Nat) : Int) = 2 ^ k := by simp
  have e2 : (1#32).toNat = 1 := rfl
  rw [← e, e2, Nat.one_mul]
  generalize (2 : Nat) ^ k = m at h1
  omega
def digits9 (i : Nat) : BitVec 8 := BitVec.ofNat 8 (49 + i)
def sum9 : BitVec 32 := bytesC 0#32 ((List.range 9).map digits9)
theorem sum9_value : B sum9 = 3421780262 := by decide +kernel
theorem sum9_any (w : World) (p : Nat) (cap : Nat) (ao : Option Addr) (hp : w.heap.size = p) (hr : Row w ao 9 (fun i => .int .u8 (B8 (digits9 i)))) :
    Calls Try.prog 33 #[.slice ao 9 cap] w fun e w' => e = .returned (.pointer (some ⟨p, 0, none⟩)) ∧ SumAt w' p sum9 9 ∧ Below p w w' := by
  subst hp
  exact (sum_any ao 9 cap digits9 w hr (by omega)).mono fun e w' ⟨h1, h2, h3, _⟩ => ⟨h1, h2, h3⟩
set_option maxRecDepth 100000 in
theorem crcAlive_any (w : World) : Calls Try.prog 32 #[] w fun e w' => e = .returned (.bool true) ∧ Below w.heap.size w w' := by
  have hv := sum9_value
  have kc := fun (w : World) (C : Array Value) (n c : Nat) => Lib.run_convert_bytes_const (P := Try.prog) w 47 5 C n c Try.underlying47 Try.underlying5
  have hrow : Row (w.alloc (Obj.cells #[Value.int IntKind.u8 49, Value.int IntKind.u8 50, Value.int IntKind.u8 51, Value.int IntKind.u8 52, Value.int IntKind.u8 53, Value.int IntKind.u8 54, Value.int IntKind.u8 55, Value.int IntKind.u8 56, Value.int IntKind.u8 57] 5 (9, 10))) (some ⟨w.heap.size, 0, none⟩) 9 (fun i => .int .u8 (B8 (digits9 i))) := fun i hi => by
    refine ⟨w.heap.size, 0, rfl, ?_⟩
    rw [Nat.zero_add, World.cell?_alloc_mark]
    match i, hi with
    | 0, _ => rfl
    | 1, _ => rfl
    | 2, _ => rfl
    | 3, _ => rfl
    | 4, _ => rfl
    | 5, _ => rfl
    | 6, _ => rfl
    | 7, _ => rfl
    | 8, _ => rfl
  have HR := hid hrow
  clear hrow
  go_enter Try.func32, Try.ntmps32
  go_wp2_with (first | (go_at_call 33; refine (sum9_any _ (w.heap.size + 1) _ _ (by simp) HR.out).mono ?_; rintro e w1 ⟨rfl, hs, hb⟩) | (go_at_call 37; refine (value_any _ _ _ _ hs).mono ?_; rintro e w2 ⟨rfl, rfl⟩))
  go_ret
  exact ⟨rfl, ((Below.refl _ _).alloc (Nat.le_refl _) _).trans (hb.mono (by omega))⟩
set_option maxRecDepth 100000 in
theorem bit_walk (ao : Option Addr) (n cap : Nat) (f : Nat → BitVec 32) (at_ bit : Int) (w : World) (hr : Row w ao n (fun i => .int .u32 (B (f i)))) (hn : n ≤ maxLen) :
    Calls Try.prog 6 #[.slice ao n cap, .int .i64 at_, .int .i64 bit] w fun e w' => e = .returned (.bool true) ∧ Below w.heap.size w w' := by
  unfold maxLen at hn
  by_cases h500 : 500 < n
  · go_enter Try.func6, Try.ntmps6
    go_wp2
    go_ret
    exact ⟨rfl, Below.refl _ _⟩
  · by_cases h0 : n = 0
    · subst h0
      go_enter Try.func6, Try.ntmps6
      go_wp2
      go_ret
      exact ⟨rfl, Below.refl _ _⟩
    · have h5 : decide (500 < (n : Int)) = false := by simp; omega
      have h6 : ((n : Int) == 0) = false := by simp; omega
      have h7 : ((n : Nat) == 0) = false := by simp; omega
      obtain ⟨b, o, rfl, hc0⟩ := hr 0 (by omega)
      obtain ⟨i0, hi, hz0, hz1, hz2⟩ := info_parts infoU32
      have hcells : ∀ j, j < n → w.cell? ⟨b, o + j, none⟩ = some (.int .u32 (B (f j))) := fun j hj => by
        obtain ⟨b', o', e, hc⟩ := hr j hj
        cases e; exact hc
      have hbl := hr.lt (i := 0) (by omega) rfl
      have hC := hid hcells
      clear hcells
      -- which word, which bit
      have k1 : -(n : Int) < at_.tmod n := by have := Int.lt_tmod_of_pos at_ (show (0 : Int) < n by omega); omega
      have k2 : at_.tmod n < n := Int.tmod_lt_of_pos at_ (by omega)
      have k3 : -(32 : Int) < bit.tmod 32 := by have := Int.lt_tmod_of_pos bit (show (0 : Int) < 32 by omega); omega
      have k4 : bit.tmod 32 < 32 := Int.tmod_lt_of_pos bit (by omega)
      obtain ⟨s, hs, hs0, hs1⟩ : ∃ s, wrap64 (at_.tmod (n : Int) + (n : Int)) = s ∧ 0 ≤ s ∧ s < 2 * (n : Int) := by
        refine ⟨at_.tmod (n : Int) + (n : Int), IntWalk.wrap64_in _ ⟨by omega, by omega⟩, by omega, by omega⟩
      obtain ⟨t, ht, ht0, ht1⟩ : ∃ t, wrap64 (bit.tmod 32 + 32) = t ∧ 0 ≤ t ∧ t < 64 := by
        refine ⟨bit.tmod 32 + 32, IntWalk.wrap64_in _ ⟨by omega, by omega⟩, by omega, by omega⟩
      obtain ⟨j, hj, hjn⟩ : ∃ j : Nat, s % (n : Int) = (j : Int) ∧ j < n := by
        have h1 := Int.emod_nonneg s (show (n : Int) ≠ 0 by omega)
        have h2 := Int.emod_lt_of_pos s (show (0 : Int) < n by omega)
        exact ⟨(s % (n : Int)).toNat, by omega, by omega⟩
      obtain ⟨k, hk, hk32⟩ : ∃ k : Nat, t % 32 = (k : Int) ∧ k < 32 := ⟨(t % 32).toNat, by omega, by omega⟩
      clear k1 k2 k3 k4
      go_enter Try.func6, Try.ntmps6
      go_wp2_with (at_builtin; refine wpList_append_own _ rfl _ _ 39 rfl w.heap.size 22 i0 (.int .u32 0) 1 4 Try.underlying39 hi hz0 hz1 hz2 rfl (by decide) _ _ _ rfl (World.ownsRow_lit w #[] 0 (Nat.le_refl _) (by unfold maxLen; omega) rfl) ⟨b, o, none⟩ n cap ((List.range n).map fun j => .int .u32 (B (f j))) rfl (by simp) (news_row (hr.alloc _)) (news_one fun _ => rfl) (by unfold maxLen; omega) (by omega) (by simp) ?_; intro v' w1 hown hgrow _; rw [Nat.zero_add, List.nil_append] at hown; have hgrow' : (w.alloc (Obj.cells #[] 22)).grownBy w1 (some w.heap.size) := hgrow; obtain ⟨g, cap', rfl, hg, hgs, hcap, hcm, hfm⟩ := own_form hown (by omega); have hcj : w1.cell? ⟨g, j, none⟩ = some (.int .u32 (B (f j))) := (by rw [hcm j hjn]; simp [hjn]); have hfj := hfm j; have hcm := hid hcm; clear hown hgrow)
      have hb1 : Below w.heap.size w w1 := ((Below.refl _ _).alloc (Nat.le_refl _) _).trans (grown_below hgrow' (Nat.le_refl _) (by simp))
      have hrow1 : Row w1 (some ⟨b, o, none⟩) n (fun i => .int .u32 (B (f i))) := hr.below hb1
      rw [B_pow hk32, B_xor]
      obtain ⟨W2, hW2⟩ : ∃ W2, W2 = w1.setCell ⟨g, j, none⟩ (.int .u32 (B (f j ^^^ (1#32 <<< k)))) := ⟨_, rfl⟩
      have hcm2 := hcm.out
      have hrow2 : Row W2 (some ⟨g, 0, none⟩) n (fun i => .int .u32 (B (if i = j then f j ^^^ (1#32 <<< k) else f i))) := fun i hi => by
        refine ⟨g, 0, rfl, ?_⟩
        rw [Nat.zero_add, hW2]
        by_cases hij : i = j
        · subst hij
          simp only [if_true]
          exact World.cell?_setCell_same' _ _ _ (by rw [hcj]; rfl)
        · simp only [hij, if_false]
          have h1 : w1.cell? ⟨g, i, none⟩ = some (.int .u32 (B (f i))) := by rw [hcm2 i hi]; simp [hi]
          simp [go_sem, h1]
      have hb2 : Below w.heap.size w W2 := by rw [hW2]; exact hb1.setCell hg _
      have hrow3 : Row W2 (some ⟨b, o, none⟩) n (fun i => .int .u32 (B (f i))) := hr.below hb2
      have hne : (B (wordsC 0#32 ((List.range n).map fun i => if i = j then f j ^^^ (1#32 <<< k) else f i)) != B (wordsC 0#32 ((List.range n).map f))) = true := by
        rw [bne_iff_ne]
        intro e
        have e := B_eq.1 e
        have hl : ((List.range n).map fun i => if i = j then f j ^^^ (1#32 <<< k) else f i) = ((List.range n).map f).set j (f j ^^^ (1#32 <<< k)) := by
          apply List.ext_getElem (by simp)
          intro i h1 h2
          simp only [List.getElem_map, List.getElem_range, List.getElem_set]
          by_cases hij : i = j
          · simp [hij]
          · have : ¬ j = i := fun e => hij e.symm
            simp [hij, this]
        rw [hl] at e
        exact wordsC_turned (w := f j) (by simp [hjn]) hk32 0#32 e
      rw [← hW2]
      refine (words_any _ n _ _ W2 hrow2 (by omega)).mono ?_
      rintro e w3 ⟨rfl, hb3⟩
      have hrow4 := hrow3.below hb3
      generalize B (wordsC 0#32 ((List.range n).map fun i => if i = j then f j ^^^ (1#32 <<< k) else f i)) = c1 at hne ⊢
      clear hrow2 hrow3 hW2 hcm2 hcj hfj hcm hfm
      go_wp2_with fail
      refine (words_any _ n _ _ w3 hrow4 (by omega)).mono ?_
      rintro e w4 ⟨rfl, hb4⟩
      generalize B (wordsC 0#32 ((List.range n).map f)) = c2 at hne ⊢
      go_wp2_with (go_at_call 32; refine (crcAlive_any _).mono ?_; rintro e w5 ⟨rfl, hb5⟩)
      go_ret
      have h23 := hb2.trans (hb3.mono hb2.size)
      have h24 := h23.trans (hb4.mono h23.size)
      exact ⟨rfl, h24.trans (hb5.mono h24.size)⟩
end Go.Proofs.Ytgcpfmdldgmbnaa
