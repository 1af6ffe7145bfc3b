/-
  Contracts of the masks that come of a seed: the program's and the document's.
-/
import Derived.Test.YtgcpfmdldgmbnaaPairRef
namespace Go.Proofs.Ytgcpfmdldgmbnaa
open Go.RowKit
/-- One step of the shift register, as the walk writes it. -/
def nx1 (x : Int) : Int := bits BinOp.xor IntKind.u32 x (x * 8192 % 4294967296)
def nx2 (x : Int) : Int := bits BinOp.xor IntKind.u32 x (x / 131072)
def nx3 (x : Int) : Int := bits BinOp.xor IntKind.u32 x (x * 32 % 4294967296)
def nx (x : Int) : Int := nx3 (nx2 (nx1 x))
def mk (a : Int) : Nat → Int
  | 0 => a
  | n + 1 => nx (mk a n)
def mks (a : Int) (n : Nat) : List Value := (List.range n).map fun j => .int .u32 (mk a j)
theorem mks_succ (a : Int) (n : Nat) : mks a (n + 1) = mks a n ++ [.int .u32 (mk a n)] := by simp [mks, List.range_succ]
theorem mks_len (a : Int) (n : Nat) : (mks a n).length = n := by simp [mks]
def sd (a : Int) : Int := max a 1
theorem nx_all (x : Int) : nx x = bits BinOp.xor IntKind.u32
              (bits BinOp.xor IntKind.u32 (bits BinOp.xor IntKind.u32 x (x * 8192 % 4294967296))
                (bits BinOp.xor IntKind.u32 x (x * 8192 % 4294967296) / 131072))
              (bits BinOp.xor IntKind.u32 (bits BinOp.xor IntKind.u32 x (x * 8192 % 4294967296))
                    (bits BinOp.xor IntKind.u32 x (x * 8192 % 4294967296) / 131072) *
                  32 %
                4294967296) := rfl
theorem below_set {B : Nat} {a w : World} (h : Below B a w) {p : Addr} (hp : B ≤ p.block) (u : Value) : Below B a (w.setCell p u) := h.setCell hp u
/-- '(*Masks).Next': it hands back the mask and turns its own cell alone. -/
theorem next_any (x : Int) (a : Addr) (w : World) (hc : w.cell? a = some (.int .u32 x)) (hf : w.frozen? a = false) : Calls Try.prog 30 #[.pointer (some a)] w fun e w' => e = .returned (.int .u32 x) ∧ w'.cell? a = some (.int .u32 (nx x)) ∧ w'.frozen? a = false ∧ w.grownBy w' (some a.block) := by
  have HN := hid (nx_all x)
  go_enter Try.func30, Try.ntmps30
  go_wp2
  go_region
  all_goals go_wp2
  all_goals go_region
  all_goals go_wp2
  all_goals go_region
  all_goals go_wp2
  all_goals go_ret
  all_goals
    rw [HN.out]
    refine ⟨rfl, ?_, ?_, ⟨rfl, rfl, rfl, by simp, ?_⟩⟩
    · exact World.cell?_setCell_same' _ _ _ (by simp [World.cell?_setCell_same', hc])
    · simp [hf]
    · intro k hk hne
      have hne' : k ≠ a.block := fun e => hne (by rw [e])
      show (((w.setCell a _).setCell a _).setCell a _).heap[k]? = _
      rw [Below.heap_setCell _ _ _ _ hne', Below.heap_setCell _ _ _ _ hne', Below.heap_setCell _ _ _ _ hne']
theorem seeded_any (a : Int) (w : World) : Calls Try.prog 28 #[.int .u32 a] w fun e w' => e = .returned (.agg #[.int .u32 (sd a)]) ∧ w.alloc (.cells #[.int .u32 (sd a)] 37) = w' := by
  by_cases h : a < 1
  · have H : Hid (sd a = 1) := by show max a 1 = 1; omega
    go_enter Try.func28, Try.ntmps28
    go_wp2
    exact bodyPost_ret (v := .agg #[.int .u32 1]) (by simp [results, Try.results28, go_sem]) rfl ⟨by rw [H.out], by rw [H.out]⟩
  · have H : Hid (sd a = a) := by show max a 1 = a; omega
    go_enter Try.func28, Try.ntmps28
    go_wp2
    exact bodyPost_ret (v := .agg #[.int .u32 a]) (by simp [results, Try.results28, go_sem]) rfl ⟨by rw [H.out], by rw [H.out]⟩
theorem infoU32 : (Try.prog.info? 22).map (fun i => (i.zero, i.size, i.bytes)) = some (some (.int .u32 0), 1, 4) := by kernel_rfl
theorem masksRef_any (a n : Int) (h0 : 0 ≤ a) (hn : n ≤ 500) (w : World) : Calls Try.prog 29 #[.int .u32 a, .int .i64 n] w fun e w' =>
    ∃ v, e = .returned v ∧ w'.ownsRow w.heap.size 22 1 v n.toNat (mks (sd a) n.toNat) ∧ Below w.heap.size w w' := by
  obtain ⟨i0, hi, hz0, hz1, hz2⟩ := info_parts infoU32
  have hs : (a == 0) = true ∧ sd a = 1 ∨ (a == 0) = false ∧ sd a = a := by
    rcases Int.lt_or_le a 1 with h | h
    · left; exact ⟨by simp; omega, by show max a 1 = 1; omega⟩
    · right; exact ⟨by simp; omega, by show max a 1 = a; omega⟩
  rcases hs with ⟨ha, hs⟩ | ⟨ha, hs⟩
  all_goals
    have HS := hid hs
    clear hs
    go_enter Try.func29, Try.ntmps29
    go_wp2
    go_loopw [0, 5, 6] (fun s v i wr => ∃ k : Nat, (k : Int) ≤ max n 0 ∧ i = .int .i64 k ∧ s = .int .u32 (mk (sd a) k) ∧ wr.ownsRow w.heap.size 22 1 v k (mks (sd a) k) ∧ Below w.heap.size w wr) (fun _ _ i _ => n.toNat - (intOf i).toNat)
    case atStart => exact ⟨0, by omega, rfl, by rw [mk, HS.out], World.ownsRow_nil _ _ _ _, Below.refl _ _⟩
    case round =>
      obtain ⟨k, hk, rfl, rfl, hown, hb⟩ := hrel
      by_cases hlt : (k : Int) < n
      · have HN := hid (nx_all (mk (sd a) k))
        go_wp2_with (first
          | (at_builtin; refine wpList_append_own _ rfl _ _ 39 rfl w.heap.size 22 i0 (.int .u32 0) 1 4 Try.underlying39 hi hz0 hz1 hz2 rfl (by decide) _ _ _ rfl (hown.alloc _) ⟨wr.heap.size, 0, none⟩ 1 1 [.int .u32 (mk (sd a) k)] rfl rfl ?c1 ?c2 ?c3 ?c4 ?c5 ?_))
        case c1 =>
          intro j u hj
          match j, hj with
          | 0, hj => simp at hj; subst hj; simp [Addr.add]
        case c2 => intro u hu; simp at hu; subst hu; rfl
        case c3 => unfold maxLen; omega
        case c4 => omega
        case c5 => have := hb.size; simp; omega
        intro v' w1 hown' hgrow _
        have hb1 : Below w.heap.size w w1 := by
          refine (hb.alloc hb.size _).grown hgrow (by have := hb.size; simp; omega) fun j hj => ?_
          exact (hown.lt j hj).1
        have hown2 : w1.ownsRow w.heap.size 22 1 v' (k + 1) (mks (sd a) (k + 1)) := by rw [mks_succ]; exact hown'
        clear hown hown' hgrow hb
        go_wp2
        go_roundw
        case rel => exact ⟨k + 1, by omega, by go_num, by rw [mk, HN.out], hown2, hb1⟩
        case measure => simp [intOf]; omega
      · have hkn : Hid (n.toNat = k) := by show _ = _; omega
        go_wp2
        go_ret
        exact ⟨_, rfl, by rw [hkn.out]; exact hown, hb⟩
end Go.Proofs.Ytgcpfmdldgmbnaa
