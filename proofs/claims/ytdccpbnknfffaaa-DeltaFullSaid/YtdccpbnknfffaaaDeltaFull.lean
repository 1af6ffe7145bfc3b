/-
  Layer 23, of 64 timers: the walk of DeltaFull.
-/
import Derived.Test.YtdccpbnknfffaaaDeltaAlive
namespace Go.Proofs.Ytdccpbnknfffaaa
open Go.RowKit
/-- So many timers, one after the other, each in as many ticks. -/
def fullR (a b : Int) (k : Nat) : TL := (List.range k).map fun i : Nat => (a + (i : Int), b)
theorem fullR_length (a b : Int) (k : Nat) : (fullR a b k).length = k := by simp [fullR]
theorem fullR_succ (a b : Int) (k : Nat) : fullR a b (k + 1) = fullR a b k ++ [(a + (k : Int), b)] := by simp [fullR, List.range_succ]
theorem fullR_mem {a b : Int} {k : Nat} {x : Int × Int} (h : x ∈ fullR a b k) : ∃ i : Nat, i < k ∧ x = (a + (i : Int), b) := by
  obtain ⟨i, hi, rfl⟩ := List.mem_map.1 h
  exact ⟨i, by simpa using hi, rfl⟩
theorem full_none {a b : Int} {k j : Nat} (h : k ≤ j) : look (a + (j : Int)) (fullR a b k) = none := look_none.2 fun x hx e => by
  obtain ⟨i, hi, rfl⟩ := fullR_mem hx
  have e : a + (i : Int) = a + (j : Int) := e
  omega
theorem full_drop {a b : Int} {k j : Nat} (h : k ≤ j) : dropR (a + (j : Int)) (fullR a b k) = fullR a b k := dropR_none fun ⟨x, hx, e⟩ => by
  obtain ⟨i, hi, rfl⟩ := fullR_mem hx
  have e : a + (i : Int) = a + (j : Int) := e
  omega
theorem full_ok {a b : Int} {k : Nat} (hb : 1 ≤ b ∧ b ≤ 65536) (hk : k < 64) : okR (a + (k : Int)) b (fullR a b k) = true := by
  unfold okR
  rw [decide_eq_true hb, fullR_length, decide_eq_true hk]; simp
theorem full_add {a b : Int} {k : Nat} (hb : 1 ≤ b ∧ b ≤ 65536) (hk : k < 64) : addR (a + (k : Int)) b (fullR a b k) = fullR a b (k + 1) := by
  unfold addR
  rw [full_ok hb hk, if_pos rfl, full_drop (Nat.le_refl _), fullR_succ]
theorem full_no (a b : Int) : okR (a + 64) 1 (fullR a b 64) = false := by
  unfold okR
  rw [fullR_length, show (a + 64 : Int) = a + ((64 : Nat) : Int) by rfl, full_none (Nat.le_refl _)]; rfl
def lastR (a b : Int) : TL := fullR a b 63 ++ [(a + 63, 1)]
theorem last_look (a b : Int) : (look (a + 63) (fullR a b 64)).isSome = true := look_isSome.2 ⟨(a + 63, b), List.mem_map.2 ⟨63, by simp, rfl⟩, rfl⟩
theorem last_ok (a b : Int) : okR (a + 63) 1 (fullR a b 64) = true := by
  unfold okR
  rw [last_look]; simp
theorem last_add (a b : Int) : addR (a + 63) 1 (fullR a b 64) = lastR a b := by
  unfold addR
  rw [last_ok, if_pos rfl, fullR_succ]
  unfold dropR lastR
  rw [List.filter_append]
  have h1 : dropR (a + 63) (fullR a b 63) = fullR a b 63 := full_drop (a := a) (b := b) (j := 63) (Nat.le_refl _)
  unfold dropR at h1
  rw [h1]
  simp
theorem last_due (a b : Int) : dueR (lastR a b) = if b = 1 then (List.range 64).map (fun i : Nat => a + (i : Int)) else [a + 63] := by
  unfold dueR lastR
  rw [List.filter_append]
  by_cases h : b = 1
  · rw [if_pos h, List.filter_eq_self.2 fun x hx => by obtain ⟨i, _, rfl⟩ := fullR_mem hx; simpa using h]
    rw [List.range_succ]
    simp [fullR]
  · rw [if_neg h, List.filter_eq_nil_iff.2 fun x hx => by obtain ⟨i, _, rfl⟩ := fullR_mem hx; simpa using h]
    simp
theorem QS.dist {W : World} {base qb : Nat} {r : TL} (h : QS W base qb r) : Dist r := h.choose_spec.2.ds
theorem last_5 {a b : Int} (h : Dist (lastR a b)) : look (a + 5) (lastR a b) = some b := (look_some h).2 (List.mem_append_left _ (List.mem_map.2 ⟨5, by simp, rfl⟩))
set_option maxRecDepth 100000 in
set_option maxHeartbeats 2000000 in
theorem deltaFull_walk (a b : Int) (w : World) : Calls Try.prog 5 #[.int .i64 a, .int .i64 b] w fun e w' => e = .returned (.bool true) ∧ Below w.heap.size w w' := by
  by_cases hg : a < 0 ∨ 1099511627776 < a ∨ b < 1 ∨ 65536 < b
  · have key : (decide (a < 0) = true) ∨ (decide (a < 0) = false ∧ decide (1099511627776 < a) = true) ∨ (decide (a < 0) = false ∧ decide (1099511627776 < a) = false ∧ decide (b < 1) = true) ∨ (decide (a < 0) = false ∧ decide (1099511627776 < a) = false ∧ decide (b < 1) = false ∧ decide (65536 < b) = true) := by
      simp only [decide_eq_true_eq, decide_eq_false_iff_not]
      omega
    clear hg
    rcases key with h | ⟨h, k⟩ | ⟨h, k, l⟩ | ⟨h, k, l, m⟩
    all_goals
      go_enter Try.func5, Try.ntmps5
      go_wp2
      go_ret
      exact ⟨rfl, Below.refl _ _⟩
  · have ha0 : 0 ≤ a := by omega
    have ha1 : a ≤ 1099511627776 := by omega
    have hb0 : 1 ≤ b := by omega
    have hb1 : b ≤ 65536 := by omega
    have d0 : decide (a < 0) = false := by simp; omega
    have d1 : decide (1099511627776 < a) = false := by simp; omega
    have d2 : decide (b < 1) = false := by simp; omega
    have d3 : decide (65536 < b) = false := by simp; omega
    have h0 := hid (qs_new w (base := w.heap.size) (Nat.le_refl _))
    have hB0 := hid (show Below w.heap.size w (w.alloc (Obj.cells #[.pointer none, .int .i64 0] 26)) from (Below.refl _ _).alloc (Nat.le_refl _) _)
    clear hg
    go_enter Try.func5, Try.ntmps5
    go_wp2
    go_loopw [6] (fun i_ wr => ∃ k : Nat, i_ = .int .i64 k ∧ k ≤ 64 ∧ Hid (QS wr w.heap.size w.heap.size (fullR a b k)) ∧ Hid (Below w.heap.size w wr)) (fun i_ _ => 64 - (intOf i_).toNat)
    case atStart => exact ⟨0, rfl, by omega, h0, hB0⟩
    case round =>
      clear h0 hB0
      obtain ⟨k, rfl, hk, HQ, HB⟩ := hrel
      by_cases hlt : k < 64
      · go_wp2_with fail
        refine (qadd_any _ _ _ (a + (k : Int)) b _ HQ.out).mono ?_
        rintro e w1 ⟨rfl, q1, k1⟩
        rw [full_ok ⟨hb0, hb1⟩ hlt]
        rw [full_add ⟨hb0, hb1⟩ hlt] at q1
        have Q1 := hid q1
        have K1 := hid (HB.out.trans k1.b)
        clear HQ HB q1 k1
        go_wp2
        go_roundw
        case rel => exact ⟨k + 1, by go_num, by omega, Q1, K1⟩
        case measure => simp [intOf]; omega
      · obtain rfl : k = 64 := by omega
        go_wp2_with fail
        refine (qadd_any _ _ _ (a + 64) 1 _ HQ.out).mono ?_
        rintro e w1 ⟨rfl, q1, k1⟩
        rw [full_no]
        rw [show addR (a + 64) 1 (fullR a b 64) = fullR a b 64 by unfold addR; rw [full_no]; rfl] at q1
        have Q1 := hid q1
        have K1 := hid (HB.out.trans k1.b)
        clear HQ HB q1 k1
        go_wp2_with fail
        refine (qadd_any _ _ _ (a + 63) 1 _ Q1.out).mono ?_
        rintro e w2 ⟨rfl, q1, k1⟩
        rw [last_ok]
        rw [last_add] at q1
        have Q2 := hid q1
        have K2 := hid (K1.out.trans k1.b)
        clear Q1 K1 q1 k1
        go_wp2_with fail
        refine (qadd_any _ _ _ (a + 5) 0 _ Q2.out).mono ?_
        rintro e w3 ⟨rfl, q1, k1⟩
        have o1 : okR (a + 5) 0 (lastR a b) = false := rfl
        rw [o1]
        rw [show addR (a + 5) 0 (lastR a b) = lastR a b by unfold addR; rw [o1]; rfl] at q1
        have Q3 := hid q1
        have K3 := hid (K2.out.trans k1.b)
        clear Q2 K2 q1 k1 o1
        go_wp2_with fail
        refine (qadd_any _ _ _ (a + 5) 65537 _ Q3.out).mono ?_
        rintro e w4 ⟨rfl, q1, k1⟩
        have o1 : okR (a + 5) 65537 (lastR a b) = false := rfl
        rw [o1]
        rw [show addR (a + 5) 65537 (lastR a b) = lastR a b by unfold addR; rw [o1]; rfl] at q1
        have Q4 := hid q1
        have K4 := hid (K3.out.trans k1.b)
        clear Q3 K3 q1 k1 o1
        go_wp2_with fail
        refine (qdue_any _ _ _ (a + 5) _ Q4.out).mono ?_
        rintro e w5 ⟨rfl, b1⟩
        rw [last_5 Q4.out.dist]
        have Q5 := hid (Q4.out.below b1)
        have K5 := hid (K4.out.trans (b1.mono K4.out.size))
        clear Q4 K4 b1
        go_wp2_with fail
        refine (qtick_any _ _ _ _ Q5.out).mono ?_
        rintro e w6 ⟨v6, rfl, p6, q1, k1⟩
        have Q6 := hid q1
        have K6 := hid (K5.out.trans k1.b)
        rw [last_due] at p6
        clear Q5 K5 q1 k1
        by_cases hb : b = 1
        · subst hb
          rw [if_pos rfl] at p6
          have PS := p6
          rw [show ((List.range 64).map (fun i : Nat => a + (i : Int))).length = 64 by simp] at p6
          obtain ⟨ao, ca, rfl, hr⟩ := own_iv p6 (by simp)
          obtain ⟨bb, oo, rfl, hc⟩ := hr 63 (by omega)
          have hc1 : w6.cell? ⟨bb, oo + 63, none⟩ = some (.int .i64 (a + 63)) := hc.trans (by simp)
          clear hr hc p6 PS
          go_wp2_with fail
          refine (dalive_any _).mono ?_
          rintro e w7 ⟨rfl, b2⟩
          go_wp2
          go_ret
          exact ⟨rfl, K6.out.trans (b2.mono K6.out.size)⟩
        · rw [if_neg hb] at p6
          have tb : (b == 1) = false := by simpa using hb
          have tb2 : decide (1 < b) = true := by simp; omega
          have P6 := hid p6
          obtain ⟨ao, ca, rfl, hr⟩ := own_iv (xs := [a + 63]) p6 rfl
          clear p6 hr
          simp only [List.length_cons, List.length_nil, Nat.zero_add] at P6 ⊢
          go_wp2_with fail
          refine (drow_own (xs := [a + 63]) (P6.out.alloc _) (box_row (xs := [a + 63]) (Nat.le_refl _) rfl rfl (by simp)) (by simp)).mono ?_
          rintro e w7 ⟨rfl, b5⟩
          have K7 := hid ((K6.out.alloc K6.out.size _).trans (b5.mono (by have := K6.out.size; simp; omega)))
          rw [show (([a + 63] : List Int) == [a + 63]) = true by simp]
          clear K6 P6 b5
          go_wp2_with fail
          refine (dalive_any _).mono ?_
          rintro e w8 ⟨rfl, b2⟩
          go_wp2
          go_ret
          exact ⟨rfl, K7.out.trans (b2.mono K7.out.size)⟩
end Go.Proofs.Ytdccpbnknfffaaa
