/-
  The walk of HeaderReads, and the example of layer 7.
-/
import Derived.Test.YtgcpfmdldgmbnaaHeaderRef
import Derived.Test.YtgcpfmdldgmbnaaHeaderWords
namespace Go.Proofs.Ytgcpfmdldgmbnaa
open Go.RowKit
@[go_sem] def rv7 (r : Int × Bool) : Value := .tuple #[.int .i64 r.1, .bool r.2]
/-- The first blank word of the trials, from one on. -/
def ntFrom (h : Nat → BitVec 32) : Nat → Nat → Int × Bool
  | 0, _ => (0, false)
  | m + 1, k => if h (10 + k) == blankW then (10 + (k : Int), true) else ntFrom h m (k + 1)
set_option maxHeartbeats 1000000 in
theorem nextTrial_any (ao : Option Addr) (n cap : Nat) (h : Nat → BitVec 32) (w : World) (hw : Wds w ao n h) (hn : n ≤ 2000) :
    Calls Try.prog 55 #[.slice ao n cap] w fun e w' => e = .returned (rv7 (ntFrom h 3 0)) ∧ w = w' := by
  go_enter Try.func55, Try.ntmps55
  go_wp2
  go_loop [4, 5] (fun _ i => ∃ k : Nat, k ≤ 3 ∧ i = .int .i64 k ∧ Hid (ntFrom h 3 0 = ntFrom h (3 - k) k)) (fun _ i => 3 - (intOf i).toNat)
  case atStart => exact ⟨0, by omega, rfl, rfl⟩
  case round =>
    obtain ⟨k, hk, rfl, HN⟩ := hrel
    by_cases hlt : k < 3
    · have HN2 : Hid (ntFrom h 3 0 = if h (10 + k) == blankW then (10 + (k : Int), true) else ntFrom h (3 - (k + 1)) (k + 1)) := by
        show _ = _
        rw [HN.out, show 3 - k = (3 - (k + 1)) + 1 by omega]; rfl
      clear HN
      by_cases hin : 10 + k < n
      · obtain ⟨b, o, rfl, hc0⟩ := hw.row (10 + k) hin
        have hc : w.cell? ⟨b, o + (10 + k), none⟩ = some (.int .u32 (B (h (10 + k)))) := hc0
        clear hc0
        have hd : decide ((n : Int) ≤ 10 + (k : Int)) = false := by simp; omega
        have ht : ((10 : Int) + (k : Int)).toNat = 10 + k := by omega
        generalize h (10 + k) = x at hc HN2
        cases hx : (x == blankW)
        · have hx2 : (B x == 4294967295) = false := by rw [B_blank]; exact hx
          have HN3 : Hid (ntFrom h 3 0 = ntFrom h (3 - (k + 1)) (k + 1)) := by show _ = _; rw [HN2.out, hx]; rfl
          clear HN2
          go_wp2
          go_round
          case rel => exact ⟨k + 1, by omega, by go_num, HN3⟩
          case measure => simp [intOf]; omega
        · have hx2 : (B x == 4294967295) = true := by rw [B_blank]; exact hx
          have HN3 : Hid (ntFrom h 3 0 = (10 + (k : Int), true)) := by show _ = _; rw [HN2.out, hx]; rfl
          clear HN2
          go_wp2
          go_ret2
          exact ⟨by rw [HN3.out]; rfl, rfl⟩
      · have hd : decide ((n : Int) ≤ 10 + (k : Int)) = true := by simp; omega
        have HN3 : Hid (ntFrom h 3 0 = (10 + (k : Int), true)) := by show _ = _; rw [HN2.out, hw.rest (10 + k) (by omega)]; rfl
        clear HN2
        go_wp2
        go_ret2
        exact ⟨by rw [HN3.out]; rfl, rfl⟩
    · obtain rfl : k = 3 := by omega
      go_wp2
      go_ret2
      exact ⟨by rw [HN.out]; rfl, rfl⟩
theorem alike_any (x y z : Int) (v c : Bool) (t : Int) (w : World) :
    Calls Try.prog 57 #[.agg #[.int .u32 x, .int .u32 y, .int .u32 z, .bool v, .bool c, .int .i64 t], .agg #[.int .u32 x, .int .u32 y, .int .u32 z, .bool v, .bool c, .int .i64 t]] w fun e w' => e = .returned (.bool true) ∧ Below w.heap.size w w' := by
  have h1 : (x == x) = true := by simp
  have h2 : (y == y) = true := by simp
  have h3 : (z == z) = true := by simp
  have h4 : (t == t) = true := by simp
  cases v <;> cases c
  all_goals
    go_enter Try.func57, Try.ntmps57
    go_wp2
    go_ret
    exact ⟨rfl, ((Below.refl _ _).alloc (Nat.le_refl _) _).alloc (by simp) _⟩
/-- A header's words, one by one. -/
def wordsF (s l c : BitVec 32) (cm cf : Bool) : Nat → BitVec 32
  | 0 => s | 1 => ~~~s | 2 => l | 3 => ~~~l | 4 => c | 5 => ~~~c
  | 6 => if cm then commW else blankW | 7 => if cm then ~~~commW else blankW
  | 8 => if cf then confW else blankW | 9 => if cf then ~~~confW else blankW
  | _ => blankW
theorem wordsF_at (s l c : BitVec 32) (cm cf : Bool) : ∀ i, i < 13 → (wordsL s l c cm cf).getD i undef = .int .u32 (B (wordsF s l c cm cf i)) := fun i hi => by
  match i, hi with
  | 0, _ => rfl | 1, _ => rfl | 2, _ => rfl | 3, _ => rfl | 4, _ => rfl | 5, _ => rfl | 6, _ => rfl | 7, _ => rfl | 8, _ => rfl | 9, _ => rfl | 10, _ => rfl | 11, _ => rfl | 12, _ => rfl
theorem wordsF_rest (s l c : BitVec 32) (cm cf : Bool) : ∀ i, 13 ≤ i → wordsF s l c cm cf i = blankW := fun i hi => by
  match i, hi with
  | i + 13, _ => rfl
theorem wds_of_words {w : World} {base : Nat} {g cap : Nat} {s l c : BitVec 32} {cm cf : Bool} (h : w.ownsRow base 22 1 (.slice (some ⟨g, 0, none⟩) 13 cap) 13 (wordsL s l c cm cf)) : Wds w (some ⟨g, 0, none⟩) 13 (wordsF s l c cm cf) :=
  ⟨(row_of_own h).congr fun i hi => wordsF_at s l c cm cf i hi, wordsF_rest s l c cm cf⟩
theorem wds_of_row {w : World} {ao : Option Addr} {n : Nat} {zs : List Int} (hz : zs.length = n) (hr : Row w ao n (fun i => .int .u32 (zs.getD i 0))) (hw : ∀ z ∈ zs, (Lit.int .u32 z).wf = true) : ∃ h, Wds w ao n h := by
  have key : ∀ i, ∃ x : BitVec 32, i < n → zs.getD i 0 = B x := fun i => by
    by_cases hi : i < n
    · have hm : zs.getD i 0 ∈ zs := by
        rw [List.getD_eq_getElem?_getD, List.getElem?_eq_getElem (by omega)]
        exact List.getElem_mem _
      obtain ⟨x, hx⟩ := wf_B (hw _ hm)
      exact ⟨x, fun _ => hx⟩
    · exact ⟨0#32, fun h => absurd h hi⟩
  refine ⟨fun i => if i < n then (key i).choose else blankW, hr.congr fun i hi => ?_, fun i hi => if_neg (by omega)⟩
  show Value.int .u32 (zs.getD i 0) = .int .u32 (B (if i < n then (key i).choose else blankW))
  rw [if_pos hi]
  exact congrArg _ ((key i).choose_spec hi)
theorem wds_nil (w : World) : Wds w none 0 (fun _ => blankW) := ⟨fun i hi => by omega, fun _ _ => rfl⟩
theorem stV_345 : stV (wordsF 3#32 4#32 5#32 true true) = .agg #[.int .u32 3, .int .u32 4, .int .u32 5, .bool true, .bool true, .int .i64 0] := by kernel_rfl
theorem stV_nil : stV (fun _ => blankW) = .agg #[.int .u32 0, .int .u32 0, .int .u32 0, .bool false, .bool false, .int .i64 0] := by kernel_rfl
set_option maxRecDepth 100000 in
theorem headerAlive_any (w : World) : Calls Try.prog 60 #[] w fun e w' => e = .returned (.bool true) ∧ Below w.heap.size w w' := by
  have HW := words_any 3#32 4#32 5#32 true true w
  rw [show B 3#32 = 3 by decide, show B 4#32 = 4 by decide, show B 5#32 = 5 by decide] at HW
  have HN : Hid (∀ W, Calls Try.prog 58 #[.slice none 0 0] W fun e w' => e = .returned (.agg #[.int .u32 0, .int .u32 0, .int .u32 0, .bool false, .bool false, .int .i64 0]) ∧ Below W.heap.size W w') := fun W => by
    rw [← stV_nil]; exact read_any none 0 0 _ W (wds_nil W)
  go_enter Try.func60, Try.ntmps60
  go_wp2_with fail
  refine HW.mono ?_
  rintro e w1 ⟨g, cap, rfl, hown, hb1⟩
  have HR := read_any _ 13 cap _ w1 (wds_of_words hown)
  rw [stV_345] at HR
  go_wp2_with fail
  refine HR.mono ?_
  rintro e w2 ⟨rfl, hb2⟩
  go_wp2_with fail
  refine (HN.out _).mono ?_
  rintro e w3 ⟨rfl, hb3⟩
  have hfield : (Instr.field 75 (.agg #[.int .u32 0, .int .u32 0, .int .u32 0, .bool false, .bool false, .int .i64 0]) 1).run Try.prog w3 = .ok (.bool false) w3 := by first | kernel_rfl | rfl
  go_wp2
  go_ret
  have b2 := hb1.trans (hb2.mono hb1.size)
  have b3 := b2.alloc b2.size (Obj.cells #[Value.int .u32 3, Value.int .u32 4, Value.int .u32 5, Value.bool true, Value.bool true, Value.int .i64 0] 75)
  exact ⟨rfl, b3.trans (hb3.mono b3.size)⟩
set_option maxRecDepth 100000 in
set_option maxHeartbeats 2000000 in
theorem headerReads_walk (ao : Option Addr) (n cap : Nat) (h : Nat → BitVec 32) (w : World) (hw : Wds w ao n h) (hm : n ≤ maxLen) :
    Calls Try.prog 12 #[.slice ao n cap] w fun e w' => e = .returned (.bool true) ∧ Below w.heap.size w w' := by
  unfold maxLen at hm
  by_cases hgt : 1100 < n
  · go_enter Try.func12, Try.ntmps12
    go_wp2
    go_ret
    exact ⟨rfl, Below.refl _ _⟩
  · have HN := hid (nextTrial_any ao n cap h w hw (by omega))
    have HA : Hid (∀ (i : Nat) (z : Int), z = i → i < 2000 → Calls Try.prog 56 #[.slice ao n cap, .int .i64 z] w fun e w' => e = .returned (.int .u32 (B (h i))) ∧ w = w') := fun i z hz hi => by
      rw [hz]; exact refAt_any ao n cap h i w hw (by omega) (by omega)
    have HR1 := read_any ao n cap h w hw
    have HR2 : Hid (∀ W, Below w.heap.size w W → Calls Try.prog 59 #[.slice ao n cap] W fun e w' => e = .returned (stV h) ∧ Below W.heap.size W w') := fun W hb => refRead_any ao n cap h W (hw.below hb) (by omega)
    clear hw
    obtain ⟨X, Y, Z, V, C, T, hst⟩ : ∃ X Y Z V C T, stV h = .agg #[.int .u32 X, .int .u32 Y, .int .u32 Z, .bool V, .bool C, .int .i64 T] := ⟨_, _, _, _, _, _, rfl⟩
    rw [hst] at HR1 HR2
    have HR1 := hid HR1
    clear hst
    have HF : Hid (∀ j : Nat, j < 3 → ntFrom h (3 - j) j = if h (10 + j) == blankW then (10 + (j : Int), true) else ntFrom h (3 - (j + 1)) (j + 1)) := fun j hj => by
      rw [show 3 - j = (3 - (j + 1)) + 1 by omega]; rfl
    go_enter Try.func12, Try.ntmps12
    go_wp2_with (go_at_call 55; refine HN.out.mono ?_; rintro e w1 ⟨rfl, rfl⟩)
    clear HN
    go_loop [5, 6, 7] (fun a b i => ∃ j : Nat, j ≤ 3 ∧ i = .int .i64 (9 + (j : Int)) ∧ a = .int .i64 (ntFrom h (3 - j) j).1 ∧ b = .bool (ntFrom h (3 - j) j).2) (fun _ _ i => (intOf i - 9).toNat)
    case atStart => exact ⟨3, by omega, rfl, rfl, rfl⟩
    case round =>
      obtain ⟨j, hj, rfl, rfl, rfl⟩ := hrel
      rcases j with _ | j
      · obtain ⟨⟨p, q⟩, hpq⟩ : ∃ y, ntFrom h 3 0 = y := ⟨_, rfl⟩
        simp only [Nat.sub_zero, hpq]
        cases q
        all_goals
          go_wp2_with (first | (go_at_call 58; refine HR1.out.mono ?_; rintro e w1 ⟨rfl, hb1⟩) | (go_at_call 59; refine (HR2.out _ hb1).mono ?_; rintro e w2 ⟨rfl, hb2⟩) | (go_at_call 57; refine (alike_any _ _ _ _ _ _ _).mono ?_; rintro e w3 ⟨rfl, hb3⟩) | (go_at_call 60; refine (headerAlive_any _).mono ?_; rintro e w4 ⟨rfl, hb4⟩))
          go_ret
          have b2 := hb1.trans (hb2.mono hb1.size)
          have b3 := b2.trans (hb3.mono b2.size)
          exact ⟨rfl, b3.trans (hb4.mono b3.size)⟩
      · have HE := hid (HF.out j (by omega))
        have HAj := hid (HA.out (10 + j) (9 + ((j + 1 : Nat) : Int)) (by omega) (by omega))
        generalize h (10 + j) = x at HE HAj
        generalize hp : ntFrom h (3 - (j + 1)) (j + 1) = p at HE ⊢
        obtain ⟨p1, p2⟩ := p
        clear hp
        cases hx : (x == blankW)
        · have hx2 : (B x == 4294967295) = false := by rw [B_blank]; exact hx
          have HE2 : Hid (ntFrom h (3 - j) j = (p1, p2)) := by show _ = _; rw [HE.out, hx]; rfl
          clear HE
          go_wp2_with (go_at_call 56; refine HAj.out.mono ?_; rintro e w1 ⟨rfl, rfl⟩)
          go_round
          case rel => exact ⟨j, by omega, by go_num, by rw [HE2.out], by rw [HE2.out]⟩
          case measure => simp [intOf]; omega
        · have hx2 : (B x == 4294967295) = true := by rw [B_blank]; exact hx
          have HE2 : Hid (ntFrom h (3 - j) j = (10 + (j : Int), true)) := by show _ = _; rw [HE.out, hx]; rfl
          clear HE
          go_wp2_with (go_at_call 56; refine HAj.out.mono ?_; rintro e w1 ⟨rfl, rfl⟩)
          go_round
          case rel => exact ⟨j, by omega, by go_num, by rw [HE2.out]; simp; omega, by rw [HE2.out]⟩
          case measure => simp [intOf]; omega
end Go.Proofs.Ytgcpfmdldgmbnaa
