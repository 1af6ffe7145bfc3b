/-
  The example of layer 23.
-/
import Derived.Test.YtdccpbnknfffaaaDeltaQ
namespace Go.Proofs.Ytdccpbnknfffaaa
open Go.RowKit
theorem box_row {w : World} {B : Nat} {xs : List Int} {cs : Array Value} (hB : B ≤ w.heap.size) (hc : cs.toList = iv xs) (h1 : cs.size = xs.length) (hm : xs.length ≤ 1000) : (w.alloc (Obj.cells cs 3)).ownsRow B 3 1 (.slice (some ⟨w.heap.size, 0, none⟩) xs.length xs.length) xs.length (iv xs) := by
  have := World.ownsRow_lit (base := B) (e := 3) (size := 1) w cs xs.length hB (by unfold maxLen; omega) (by simp [h1])
  rwa [hc] at this
set_option maxRecDepth 100000 in
set_option maxHeartbeats 1000000 in
theorem dalive_any (w : World) : Calls Try.prog 19 #[] w fun e w' => e = .returned (.bool true) ∧ Below w.heap.size w w' := by
  have h0 := hid (qs_new w (base := w.heap.size) (Nat.le_refl _))
  have hb0 := hid (show Below w.heap.size w (w.alloc (Obj.cells #[.pointer none, .int .i64 0] 26)) from (Below.refl _ _).alloc (Nat.le_refl _) _)
  go_enter Try.func19, Try.ntmps19
  go_wp2_with fail
  refine (qadd_any _ _ _ 7 2 _ h0.out).mono ?_
  rintro e w1 ⟨rfl, q1, k1⟩
  have Q1 := hid q1
  have K1 := hid (hb0.out.trans k1.b)
  clear h0 hb0 q1 k1
  go_wp2_with fail
  refine (qadd_any _ _ _ 8 1 _ Q1.out).mono ?_
  rintro e w2 ⟨rfl, q1, k1⟩
  have Q2 := hid q1
  have K2 := hid (K1.out.trans k1.b)
  clear Q1 K1 q1 k1
  go_wp2_with fail
  refine (qadd_any _ _ _ 9 2 _ Q2.out).mono ?_
  rintro e w3 ⟨rfl, q1, k1⟩
  have Q3 := hid q1
  have K3 := hid (K2.out.trans k1.b)
  clear Q2 K2 q1 k1
  have o1 : okR 7 2 [] = true := by decide
  have o2 : okR 8 1 (addR 7 2 []) = true := by decide
  have o3 : okR 9 2 (addR 8 1 (addR 7 2 [])) = true := by decide
  rw [show addR 9 2 (addR 8 1 (addR 7 2 [])) = [(7, 2), (8, 1), (9, 2)] by decide] at Q3
  rw [o1, o2, o3]
  clear o1 o2 o3
  go_wp2_with fail
  refine (qtick_any _ _ _ _ Q3.out).mono ?_
  rintro e w4 ⟨v4, rfl, p4, q1, k1⟩
  have P4 := hid p4
  have Q4 := hid q1
  have K4 := hid (K3.out.trans k1.b)
  clear Q3 K3 q1 k1 p4
  rw [show dueR [(7, 2), (8, 1), (9, 2)] = [8] by decide] at P4
  rw [show leftR [(7, 2), (8, 1), (9, 2)] = [(7, 1), (9, 1)] by decide] at Q4
  go_wp2_with fail
  refine (drow_own (P4.out.alloc _) (box_row (xs := [8]) (Nat.le_refl _) rfl rfl (by simp)) (by simp)).mono ?_
  rintro e w5 ⟨rfl, b5⟩
  have hA := (Below.refl w4.heap.size w4).alloc (Nat.le_refl _) (Obj.cells #[Value.int .i64 8] 3)
  have Q5 := hid ((Q4.out.below hA).below b5)
  have K5 := hid ((K4.out.alloc K4.out.size _).trans (b5.mono (by have := K4.out.size; simp; omega)))
  clear Q4 K4 P4 hA b5
  rw [show ([8] : List Int) == [8] by decide]
  go_wp2_with fail
  refine (qtick_any _ _ _ _ Q5.out).mono ?_
  rintro e w6 ⟨v6, rfl, p4, q1, k1⟩
  have P6 := hid p4
  have Q6 := hid q1
  have K6 := hid (K5.out.trans k1.b)
  clear Q5 K5 q1 k1 p4
  rw [show dueR [(7, 1), (9, 1)] = [7, 9] by decide] at P6
  rw [show leftR [(7, 1), (9, 1)] = [] by decide] at Q6
  go_wp2_with fail
  refine (drow_own (P6.out.alloc _) (box_row (xs := [7, 9]) (Nat.le_refl _) rfl rfl (by simp)) (by simp)).mono ?_
  rintro e w7 ⟨rfl, b5⟩
  have hA := (Below.refl w6.heap.size w6).alloc (Nat.le_refl _) (Obj.cells #[Value.int .i64 7, Value.int .i64 9] 3)
  have Q7 := hid ((Q6.out.below hA).below b5)
  have K7 := hid ((K6.out.alloc K6.out.size _).trans (b5.mono (by have := K6.out.size; simp; omega)))
  clear Q6 K6 P6 hA b5
  rw [show ([7, 9] : List Int) == [7, 9] by decide]
  go_wp2_with fail
  refine (qlen_any _ _ _ _ Q7.out).mono ?_
  rintro e w8 ⟨rfl, rfl⟩
  go_wp2
  go_ret
  exact ⟨rfl, K7.out⟩
end Go.Proofs.Ytdccpbnknfffaaa
