/-
  The example of layer 48.
-/
import Derived.Test.YtdccpbnknfffaaaAlarmGoesW
import Derived.Test.YtdccpbnknfffaaaAlarmTwo
import Derived.Test.YtdccpbnknfffaaaAlarmRef
import Derived.Test.YtdccpbnknfffaaaDeltaAlive
namespace Go.Proofs.Ytdccpbnknfffaaa
open Go.RowKit
/-- The example's alarms. -/
def exS : ST := setS 1 2 3 ([], fun _ => 0, fun _ => 0)
theorem exS_ev : (evE exS 8).take 99 = [(2, 1), (5, 1), (8, 1)] := by decide +kernel
theorem exS_ct : (evS exS 8).2.2 1 = 3 := by decide +kernel
theorem exS_spec : Spec exS 8 99 8 := ⟨Nat.le_refl _, by decide +kernel, .inl rfl⟩
theorem exS_rng : Rng exS := Rng.set ⟨fun _ => ⟨by show (0 : Int) ≤ 0; omega, by show (0 : Int) ≤ 65536; omega⟩, fun _ => ⟨by show (0 : Int) ≤ 0; omega, by show (0 : Int) ≤ 65536; omega⟩⟩ 1 2 3
theorem exS_wf : ∀ x ∈ exS.1, (kI x.1).wf = true := setS_wf (P := fun i => (kI i).wf = true) (fun x hx => by cases hx) (by decide) 2 3
theorem exS_ok : okS 1 2 3 [] = true := by decide +kernel
set_option maxRecDepth 100000 in
set_option maxHeartbeats 1000000 in
theorem aalive_any (w : World) : Calls Try.prog 26 #[] w fun e w' => e = .returned (.bool true) ∧ Below w.heap.size w w' := by
  go_enter Try.func26, Try.ntmps26
  go_wp2_with fail
  refine (anew_any _).mono ?_
  rintro e w1 ⟨rfl, a1, b1⟩
  have A1 := hid a1
  have B1 := hid b1
  clear a1 b1
  go_wp2_with fail
  refine (aset_two _ _ _ _ _ _ ([], fun _ => 0, fun _ => 0) 1 2 3 w1 A1.out (by omega) (by decide) (fun k hk => Nat.le_trans B1.out.size hk)).mono ?_
  rintro e w2 ⟨rfl, a2, k2⟩
  have A2 : Hid (AS w2 w.heap.size (w.heap.size + 2) w.heap.size (w.heap.size + 1) (0 + 1) (fun k => w.heap.size ≤ k) exS.1 exS.2.1 exS.2.2) := a2
  have B2 := hid (B1.out.trans k2.b)
  clear a2 k2 A1 B1
  rw [show okS 1 2 3 ([], fun (_ : Int) => (0 : Int), fun (_ : Int) => (0 : Int)).1 = true from exS_ok]
  go_wp2_with fail
  refine (goes_any _ _ _ _ _ _ exS 99 8 w2 A2.out (fun k hk => Nat.le_trans B2.out.size hk) exS_rng exS_wf (by omega) (by omega) (by omega) (by omega)).mono ?_
  rintro e w3 ⟨v, n, rfl, hsp, hrow, a3, k3⟩
  obtain rfl : n = 8 := Spec.uniq hsp exS_spec
  rw [exS_ev] at hrow
  have A3 := hid a3
  have O3 : Hid (w3.ownsRow w2.heap.size 3 1 v ([2, 1, 5, 1, 8, 1] : List Int).length (iv [2, 1, 5, 1, 8, 1])) := hrow
  have B3 := hid (B2.out.trans k3.b)
  clear a3 k3 hrow hsp A2 B2
  go_wp2_with fail
  refine (arow_own (O3.out.alloc _) (box_row (xs := [2, 1, 5, 1, 8, 1]) (Nat.le_refl _) rfl rfl (by simp)) (by simp)).mono ?_
  rintro e w4 ⟨rfl, b4⟩
  have hA := (Below.refl w3.heap.size w3).alloc (Nat.le_refl _) (Obj.cells #[Value.int .i64 2, Value.int .i64 1, Value.int .i64 5, Value.int .i64 1, Value.int .i64 8, Value.int .i64 1] 3)
  have A4 := hid ((A3.out.below hA).below b4)
  have B4 := hid ((B3.out.alloc B3.out.size _).trans (b4.mono (by have := B3.out.size; simp; omega)))
  clear A3 B3 O3 hA b4
  rw [show (([2, 1, 5, 1, 8, 1] : List Int) == [2, 1, 5, 1, 8, 1]) = true by decide]
  go_wp2_with fail
  refine (acount_any _ _ _ _ _ _ _ _ _ 1 w4 A4.out (by decide)).mono ?_
  rintro e w5 ⟨rfl, rfl⟩
  rw [exS_ct]
  go_wp2
  go_ret
  exact ⟨rfl, B4.out⟩
end Go.Proofs.Ytdccpbnknfffaaa
