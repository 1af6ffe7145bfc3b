/-
  Contracts of layer 56: whether none of a list is late (the program's and the document's), and the walk of ServerFits.
-/
import Derived.Test.YtcjdfgfnpmmcnaaServerRespRef
import Derived.Test.YtcjdfgfnpmmcnaaServerAlive
namespace Go.Proofs.Ytcjdfgfnpmmcnaa
open Go.RowKit
/-- Of the first k all are. -/
def okAll (P : Nat → Bool) : Nat → Bool
  | 0 => true
  | k + 1 => okAll P k && P k
theorem okAll_no {P : Nat → Bool} {k n : Nat} (h : k < n) (hk : P k = false) : okAll P n = false := by
  induction n with
  | zero => omega
  | succ n ih =>
    show (okAll P n && P n) = false
    rcases (show k < n ∨ k = n by omega) with e | rfl
    · rw [ih e]; rfl
    · rw [hk]; simp
theorem okAll_yes {P : Nat → Bool} {k : Nat} (h : okAll P k = true) (hk : P k = true) : okAll P (k + 1) = true := by
  show (okAll P k && P k) = true
  rw [h, hk]; rfl
def fitsR (p b : Int) (g : Nat → Nat → Int) (n : Nat) : Bool := okAll (fun i => (respW p b (g i) (fun j => termOf (g j)) i).2) n
theorem Tasks.alloc_ {w : World} {ao : Option Addr} {n : Nat} {g : Nat → Nat → Int} (h : Tasks w ao n g) (o : Obj) : Tasks (w.alloc o) ao n g := h.below ((Below.refl _ _).alloc (Nat.le_refl _) o)
/-- A task that was just laid. -/
theorem task_new (w : World) (x : Nat → Int) (t : TypeId) : let W := w.alloc (Obj.cells #[Value.int .i64 (x 0), Value.int .i64 (x 1), Value.int .i64 (x 2), Value.int .i64 (x 3), Value.int .i64 (x 4), Value.int .i64 (x 5), Value.int .i64 (x 6), Value.int .i64 (x 7), Value.int .i64 (x 8), Value.int .i64 (x 9), Value.int .i64 (x 10)] t)
    (W.cell? ⟨w.heap.size, 0, none⟩ = some (.int .i64 (x 0)) ∧ W.cell? ⟨w.heap.size, 1, none⟩ = some (.int .i64 (x 1)) ∧ W.cell? ⟨w.heap.size, 2, none⟩ = some (.int .i64 (x 2)) ∧ W.cell? ⟨w.heap.size, 3, none⟩ = some (.int .i64 (x 3))) ∧
    (W.cell? ⟨w.heap.size, 4, none⟩ = some (.int .i64 (x 4)) ∧ W.cell? ⟨w.heap.size, 5, none⟩ = some (.int .i64 (x 5)) ∧ W.cell? ⟨w.heap.size, 6, none⟩ = some (.int .i64 (x 6)) ∧ W.cell? ⟨w.heap.size, 7, none⟩ = some (.int .i64 (x 7))) ∧
    (W.cell? ⟨w.heap.size, 8, none⟩ = some (.int .i64 (x 8)) ∧ W.cell? ⟨w.heap.size, 9, none⟩ = some (.int .i64 (x 9)) ∧ W.cell? ⟨w.heap.size, 10, none⟩ = some (.int .i64 (x 10))) :=
  ⟨⟨World.cell?_alloc_at _ _ _ _ rfl, World.cell?_alloc_at _ _ _ _ rfl, World.cell?_alloc_at _ _ _ _ rfl, World.cell?_alloc_at _ _ _ _ rfl⟩, ⟨World.cell?_alloc_at _ _ _ _ rfl, World.cell?_alloc_at _ _ _ _ rfl, World.cell?_alloc_at _ _ _ _ rfl, World.cell?_alloc_at _ _ _ _ rfl⟩, World.cell?_alloc_at _ _ _ _ rfl, World.cell?_alloc_at _ _ _ _ rfl, World.cell?_alloc_at _ _ _ _ rfl⟩
set_option maxRecDepth 100000 in
set_option maxHeartbeats 2000000 in
theorem serverFits_any (ao : Option Addr) (n cap : Nat) (p b : Int) (g : Nat → Nat → Int) (w : World) (hn : n ≤ 20) (hcap : n ≤ cap ∧ cap ≤ maxLen) (hT : Tasks w ao n g) (hG : ∀ i, i < n → OkT (g i)) (hR : sR p b = true) :
    Calls Try.prog 38 #[.agg #[.int .i64 p, .int .i64 b], .slice ao n cap] w fun e w' => e = .returned (.bool (fitsR p b g n)) ∧ Below w.heap.size w w' := by
  unfold maxLen at hcap
  obtain ⟨hcap1, hcap2⟩ := hcap
  have HC : Hid (∀ k ao cap W, k < n → Tasks W ao k g → Calls Try.prog 36 #[.agg #[.int .i64 p, .int .i64 b], tv (g k), .slice ao k cap] W fun e w' => e = .returned (rv (respW p b (g k) (fun i => termOf (g i)) k)) ∧ Below W.heap.size W w') := fun k ao cap W hk hW => by
    rw [← resp_eq hR (hG k hk) fun i hi => (hG i (by omega)).fit]
    exact response_any ao k cap p b (g k) g W (by omega) hW (fun i hi => hG i (by omega)) (hG k hk) hR
  clear hG hR
  obtain ⟨P, hP⟩ : ∃ P : Nat → Bool, P = fun i => (respW p b (g i) (fun j => termOf (g j)) i).2 := ⟨_, rfl⟩
  have HE : Hid (fitsR p b g n = okAll P n) := by show _ = _; rw [hP]; rfl
  have HPk : Hid (∀ k, P k = (respW p b (g k) (fun i => termOf (g i)) k).2) := fun k => by rw [hP]
  clear hP
  go_enter Try.func38, Try.ntmps38
  go_wp2
  have B0 : Below w.heap.size w (w.alloc (Obj.cells #[Value.int .i64 p, Value.int .i64 b] 23)) := (Below.refl _ _).alloc (Nat.le_refl _) _
  obtain ⟨W2, hW2⟩ : ∃ W, W = w.alloc (Obj.cells #[Value.int .i64 p, Value.int .i64 b] 23) := ⟨_, rfl⟩
  have s0 : W2.cell? ⟨w.heap.size, 0, none⟩ = some (.int .i64 p) := by rw [hW2]; exact World.cell?_alloc_at _ _ _ _ rfl
  have s1 : W2.cell? ⟨w.heap.size, 1, none⟩ = some (.int .i64 b) := by rw [hW2]; exact World.cell?_alloc_at _ _ _ _ rfl
  have hsz2 : W2.heap.size = w.heap.size + 1 := by rw [hW2]; simp
  rw [← hW2] at B0 ⊢
  clear hW2
  go_loopw [5, 6, 7, 8, 11] (fun _ _ _ _ i wr => ∃ k : Nat, k ≤ n ∧ i = .int .i64 k ∧ Hid (okAll P k = true) ∧ Below W2.heap.size W2 wr) (fun _ _ _ _ i _ => n - (intOf i).toNat)
  case atStart => exact ⟨0, by omega, rfl, rfl, Below.refl _ _⟩
  case round =>
    obtain ⟨k, hk, rfl, HO, hbr⟩ := hrel
    have B1 := B0.trans (hbr.mono (by omega))
    by_cases hlt : k < n
    · obtain ⟨bb, oo, rfl, hbl⟩ := hT.form hlt
      obtain ⟨⟨c0, c1, c2, c3⟩, ⟨c4, c5, c6, c7⟩, c8, c9, c10⟩ := (hT.below B1).at_ hlt
      have B2 := hbr.alloc hbr.size (Obj.cells #[Value.int .i64 (g k 0), Value.int .i64 (g k 1), Value.int .i64 (g k 2), Value.int .i64 (g k 3), Value.int .i64 (g k 4), Value.int .i64 (g k 5), Value.int .i64 (g k 6), Value.int .i64 (g k 7), Value.int .i64 (g k 8), Value.int .i64 (g k 9), Value.int .i64 (g k 10)] 33)
      have e0 := Cls.cell (kept s0 B2)
      have e1 := Cls.cell (kept s1 B2)
      obtain ⟨⟨n0, n1, n2, n3⟩, ⟨n4, n5, n6, n7⟩, n8, n9, n10⟩ := task_new wr (g k) 33
      have f0 := Cls.cell n0
      have f1 := Cls.cell n1
      have f2 := Cls.cell n2
      have f3 := Cls.cell n3
      have f4 := Cls.cell n4
      have f5 := Cls.cell n5
      have f6 := Cls.cell n6
      have f7 := Cls.cell n7
      have f8 := Cls.cell n8
      have f9 := Cls.cell n9
      have f10 := Cls.cell n10
      clear n0 n1 n2 n3 n4 n5 n6 n7 n8 n9 n10
      have HTk := hid ((hT.below B1).alloc_ (Obj.cells #[Value.int .i64 (g k 0), Value.int .i64 (g k 1), Value.int .i64 (g k 2), Value.int .i64 (g k 3), Value.int .i64 (g k 4), Value.int .i64 (g k 5), Value.int .i64 (g k 6), Value.int .i64 (g k 7), Value.int .i64 (g k 8), Value.int .i64 (g k 9), Value.int .i64 (g k 10)] 33))
      have HQ := hid (fun (i : Cls (wr.alloc (Obj.cells #[Value.int .i64 (g k 0), Value.int .i64 (g k 1), Value.int .i64 (g k 2), Value.int .i64 (g k 3), Value.int .i64 (g k 4), Value.int .i64 (g k 5), Value.int .i64 (g k 6), Value.int .i64 (g k 7), Value.int .i64 (g k 8), Value.int .i64 (g k 9), Value.int .i64 (g k 10)] 33))) => HC.out k (some ⟨bb, oo, none⟩) cap i.wd hlt (((HTk.out).less (by omega)).below i.below))
      have HP := hid (HPk.out k)
      obtain ⟨⟨rv1, ok1⟩, hrr⟩ : ∃ y, respW p b (g k) (fun i => termOf (g i)) k = y := ⟨_, rfl⟩
      rw [hrr] at HQ HP
      clear hrr
      have B3 := B1.alloc B1.size (Obj.cells #[Value.int .i64 (g k 0), Value.int .i64 (g k 1), Value.int .i64 (g k 2), Value.int .i64 (g k 3), Value.int .i64 (g k 4), Value.int .i64 (g k 5), Value.int .i64 (g k 6), Value.int .i64 (g k 7), Value.int .i64 (g k 8), Value.int .i64 (g k 9), Value.int .i64 (g k 10)] 33)
      cases ok1
      · have HN := hid (okAll_no hlt HP.out)
        go_wp2
        refine wp_region_cls (by kernel_rfl) (by kernel_rfl) ?_
        repeat (go_big_quiet_step ((first | (go_at_call 36; exact Calls.cls _ (HQ.out _)))))
        refine wpQuiet_nil ?_
        intro _ hw'
        obtain ⟨nq, rfl⟩ := hw'
        go_wp2
        go_ret
        exact ⟨by rw [HE.out, HN.out]; rfl, B3.trans (nq.below.mono B3.size)⟩
      · have HY := hid (okAll_yes HO.out HP.out)
        go_wp2
        refine wp_region_cls (by kernel_rfl) (by kernel_rfl) ?_
        repeat (go_big_quiet_step ((first | (go_at_call 36; exact Calls.cls _ (HQ.out _)))))
        refine wpQuiet_nil ?_
        intro _ hw'
        obtain ⟨nq, rfl⟩ := hw'
        go_wp2
        go_roundw
        case rel => exact ⟨k + 1, by omega, by go_num, HY, B2.trans (nq.below.mono B2.size)⟩
        case measure => simp [intOf]; omega
    · obtain rfl : k = n := by omega
      go_wp2
      go_ret
      exact ⟨by rw [HE.out, HO.out]; rfl, B1⟩
set_option maxRecDepth 100000 in
set_option maxHeartbeats 2000000 in
theorem refFits_any (ao : Option Addr) (n cap : Nat) (p b : Int) (g : Nat → Nat → Int) (w : World) (hn : n ≤ 20) (hcap : n ≤ cap ∧ cap ≤ maxLen) (hT : Tasks w ao n g) (hG : ∀ i, i < n → OkT (g i)) (hR : sR p b = true) :
    Calls Try.prog 39 #[.int .i64 p, .int .i64 b, .slice ao n cap] w fun e w' => e = .returned (.bool (fitsR p b g n)) ∧ Below w.heap.size w w' := by
  unfold maxLen at hcap
  obtain ⟨hcap1, hcap2⟩ := hcap
  have HC : Hid (∀ k ao cap W, k < n → Tasks W ao k g → Calls Try.prog 37 #[.int .i64 p, .int .i64 b, tv (g k), .slice ao k cap] W fun e w' => e = .returned (rv (respW p b (g k) (fun i => termOf (g i)) k)) ∧ Below W.heap.size W w') := fun k ao cap W hk hW =>
    refResponse_any ao k cap p b (g k) g W (by omega) hW (fun i hi => hG i (by omega)) (hG k hk) hR
  clear hG hR
  obtain ⟨P, hP⟩ : ∃ P : Nat → Bool, P = fun i => (respW p b (g i) (fun j => termOf (g j)) i).2 := ⟨_, rfl⟩
  have HE : Hid (fitsR p b g n = okAll P n) := by show _ = _; rw [hP]; rfl
  have HPk : Hid (∀ k, P k = (respW p b (g k) (fun i => termOf (g i)) k).2) := fun k => by rw [hP]
  clear hP
  go_enter Try.func39, Try.ntmps39
  go_wp2
  go_loopw [7, 8, 9] (fun i _ _ wr => ∃ k : Nat, k ≤ n ∧ i = .int .i64 k ∧ Hid (okAll P k = true) ∧ Below w.heap.size w wr) (fun i _ _ _ => n - (intOf i).toNat)
  case atStart => exact ⟨0, by omega, rfl, rfl, Below.refl _ _⟩
  case round =>
    obtain ⟨k, hk, rfl, HO, B1⟩ := hrel
    by_cases hlt : k < n
    · obtain ⟨bb, oo, rfl, hbl⟩ := hT.form hlt
      obtain ⟨⟨n0, n1, n2, n3⟩, ⟨n4, n5, n6, n7⟩, n8, n9, n10⟩ := (hT.below B1).at_ hlt
      have f0 := Cls.cell n0
      have f1 := Cls.cell n1
      have f2 := Cls.cell n2
      have f3 := Cls.cell n3
      have f4 := Cls.cell n4
      have f5 := Cls.cell n5
      have f6 := Cls.cell n6
      have f7 := Cls.cell n7
      have f8 := Cls.cell n8
      have f9 := Cls.cell n9
      have f10 := Cls.cell n10
      clear n0 n1 n2 n3 n4 n5 n6 n7 n8 n9 n10
      have HTk := hid (hT.below B1)
      have HQ := hid (fun (i : Cls wr) => HC.out k (some ⟨bb, oo, none⟩) cap i.wd hlt (((HTk.out).less (by omega)).below i.below))
      have HP := hid (HPk.out k)
      obtain ⟨⟨rv1, ok1⟩, hrr⟩ : ∃ y, respW p b (g k) (fun i => termOf (g i)) k = y := ⟨_, rfl⟩
      rw [hrr] at HQ HP
      clear hrr
      cases ok1
      · have HN := hid (okAll_no hlt HP.out)
        go_wp2
        refine wp_region_cls (by kernel_rfl) (by kernel_rfl) ?_
        repeat (go_big_quiet_step ((first | (go_at_call 37; exact Calls.cls _ (HQ.out _)))))
        refine wpQuiet_nil ?_
        intro _ hw'
        obtain ⟨nq, rfl⟩ := hw'
        go_wp2
        go_ret
        exact ⟨by rw [HE.out, HN.out]; rfl, B1.trans (nq.below.mono B1.size)⟩
      · have HY := hid (okAll_yes HO.out HP.out)
        go_wp2
        refine wp_region_cls (by kernel_rfl) (by kernel_rfl) ?_
        repeat (go_big_quiet_step ((first | (go_at_call 37; exact Calls.cls _ (HQ.out _)))))
        refine wpQuiet_nil ?_
        intro _ hw'
        obtain ⟨nq, rfl⟩ := hw'
        go_wp2
        go_roundw
        case rel => exact ⟨k + 1, by omega, by go_num, HY, B1.trans (nq.below.mono B1.size)⟩
        case measure => simp [intOf]; omega
    · obtain rfl : k = n := by omega
      go_wp2
      go_ret
      exact ⟨by rw [HE.out, HO.out]; rfl, B1⟩
end Go.Proofs.Ytcjdfgfnpmmcnaa
