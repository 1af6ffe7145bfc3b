/-
  The three laws of layer 5: their walks.
-/
import Derived.Test.YtgcpfmdldgmbnaaPairMasks
namespace Go.Proofs.Ytgcpfmdldgmbnaa
open Go.RowKit
section
theorem run_eql_pair (a b c d : Int) (w : World) : (binOp .eql 24 (.agg #[.int .u32 a, .int .u32 b]) (.agg #[.int .u32 c, .int .u32 d])).run Try.prog w = .ok (.bool (a == c && b == d)) w := by
  cases h : (a == c)
  · simp [go_sem, h]
  · by_cases e : b = d
    · simp [go_sem, h, e]
    · have e' : (b == d) = false := by simp [e]
      simp [go_sem, h, e']
attribute [local go_sem high] run_eql_pair
attribute [local go_sem] B_and B_or B_xor B_andNot B_not B_inj B_zero
theorem Is_any (a b c : BitVec 32) (w : World) : Calls Try.prog 23 #[.agg #[.int .u32 (B a), .int .u32 (B b)], .int .u32 (B c)] w fun e w' => e = .returned (.bool (a == c && b == ~~~c)) ∧ Below w.heap.size w w' := by
  have c0 : (w.alloc (Obj.cells #[Value.int IntKind.u32 (B a), Value.int IntKind.u32 (B b)] 24)).cell? ⟨w.heap.size, 0, none⟩ = some (.int .u32 (B a)) := by simp [World.cell?_alloc_at]
  have c1 : (w.alloc (Obj.cells #[Value.int IntKind.u32 (B a), Value.int IntKind.u32 (B b)] 24)).cell? ⟨w.heap.size, 1, none⟩ = some (.int .u32 (B b)) := by simp [World.cell?_alloc_at]
  have d0 := Cls.cell c0
  have d1 := Cls.cell c1
  clear c0 c1
  go_enter Try.func23, Try.ntmps23
  go_wp2_with fail
  refine wp_region_cls (by kernel_rfl) (by kernel_rfl) ?_
  repeat (go_big_quiet_step ((go_at_call 15; refine Calls.cls _ (Calls.below1 (of_any _ _)))))
  refine wpQuiet_nil ?_
  intro _ hw'
  obtain ⟨nq, rfl⟩ := hw'
  go_wp2
  go_ret
  exact ⟨rfl, ((Below.refl _ _).alloc (Nat.le_refl _) _).trans (nq.below.mono (by simp))⟩
theorem pairAlive_below (w : World) : Calls Try.prog 21 #[] w fun e w' => e = .returned (.bool true) ∧ Below w.heap.size w w' := by
  go_enter Try.func21, Try.ntmps21
  go_wp2_with (first | (go_at_call 15; refine (of_raw _ _).mono ?_; rintro e w' ⟨rfl, rfl⟩) | (go_at_call 16; refine (falls_raw _ _ _ _).mono ?_; rintro e w' ⟨rfl, rfl⟩) | (go_at_call 20; refine (right_raw _ _ _).mono ?_; rintro e w' ⟨rfl, rfl⟩))

  go_ret
  exact ⟨rfl, (((Below.refl _ _).alloc (Nat.le_refl _) _).alloc (by simp) _).alloc (by simp; omega) _⟩
set_option maxHeartbeats 1000000 in
theorem tells_walk0 (a q b c : BitVec 32) (hr : (q == ~~~a) = true) (w : World) :
    Calls Try.prog 4 #[.agg #[.int .u32 (B a), .int .u32 (B q)], .agg #[.int .u32 (B a), .int .u32 (B b), .int .u32 (B c)]] w fun e w' => e = .returned (.bool true) ∧ Below w.heap.size w w' := by
  obtain ⟨W, hW⟩ : ∃ W, W = (((w.alloc (Obj.cells #[Value.int IntKind.u32 (B a), Value.int IntKind.u32 (B q)] 24)).alloc
          (Obj.cells #[Value.int IntKind.u32 (B a), Value.int IntKind.u32 (B b), Value.int IntKind.u32 (B c)] 32)).alloc
      (Obj.cells #[Value.int IntKind.u32 (B a), Value.int IntKind.u32 (B (~~~a))] 24)).alloc
      (Obj.cells #[Value.int IntKind.u32 (B a), Value.int IntKind.u32 (B (~~~a))] 24) := ⟨_, rfl⟩
  have p0 : W.cell? ⟨w.heap.size, 0, none⟩ = some (.int .u32 (B a)) := by rw [hW]; simp [go_sem]
  have p1 : W.cell? ⟨w.heap.size, 1, none⟩ = some (.int .u32 (B q)) := by rw [hW]; simp [go_sem]
  have x0 : W.cell? ⟨w.heap.size + 1, 0, none⟩ = some (.int .u32 (B a)) := by rw [hW]; simp [go_sem]
  have x1 : W.cell? ⟨w.heap.size + 1, 1, none⟩ = some (.int .u32 (B b)) := by rw [hW]; simp [go_sem]
  have x2 : W.cell? ⟨w.heap.size + 1, 2, none⟩ = some (.int .u32 (B c)) := by rw [hW]; simp [go_sem]
  have o0 : W.cell? ⟨w.heap.size + 1 + 1 + 1, 0, none⟩ = some (.int .u32 (B a)) := by rw [hW]; simp [go_sem]
  have o1 : W.cell? ⟨w.heap.size + 1 + 1 + 1, 1, none⟩ = some (.int .u32 (B (~~~a))) := by rw [hW]; simp [go_sem]
  have p0' := Cls.cell p0
  have p1' := Cls.cell p1
  have x0' := Cls.cell x0
  have x1' := Cls.cell x1
  have x2' := Cls.cell x2
  have o0' := Cls.cell o0
  have o1' := Cls.cell o1
  have hb : Below w.heap.size w W := by
    rw [hW]; exact ((((Below.refl _ _).alloc (Nat.le_refl _) _).alloc (by simp) _).alloc (by simp; omega) _).alloc (by simp; omega) _
  have HW := hid hW
  clear hW p0 p1 x0 x1 x2 o0 o1
  go_enter Try.func4, Try.ntmps4
  go_wp2_with (first | (go_at_call 15; refine (of_any _ _).mono ?_; rintro e w' ⟨rfl, rfl⟩))
  rw [← HW.out]
  refine wp_region_cls (by kernel_rfl) (by kernel_rfl) ?_
  repeat (go_big_quiet_step ((go_at_call 22; exact Calls.cls _ (Calls.below (otherRef_any _ _)))))
  refine wpQuiet_nil ?_
  intro _ hw'
  obtain ⟨n1, rfl⟩ := hw'
  have hb1 : Below w.heap.size w n1.wd := hb.trans (n1.below.mono hb.size)
  have p0 := Cls.cell (p0' n1)
  have p1 := Cls.cell (p1' n1)
  have x0 := Cls.cell (x0' n1)
  have x1 := Cls.cell (x1' n1)
  have x2 := Cls.cell (x2' n1)
  have o0 := Cls.cell (o0' n1)
  have o1 := Cls.cell (o1' n1)
  clear p0' p1' x0' x1' x2' o0' o1'
  go_wp2_with fail
  simp only [List.append_eq, List.cons_append, List.nil_append]
  refine wp_region_cls (by kernel_rfl) (by kernel_rfl) ?_
  repeat (go_big_quiet_step ((first | (go_at_call 22; exact Calls.cls _ (Calls.below (otherRef_any _ _))) | (go_at_call 20; exact Calls.cls _ (Calls.below1 (right_any _ _ _))) | (go_at_call 23; exact Calls.cls _ (Is_any _ _ _ _)) | (go_at_call 18; exact Calls.cls _ (Calls.below (fell_any _ _ _ _))) | (go_at_call 24; exact Calls.cls _ (Calls.below (fellRef_any _ _ _ _))) | (go_at_call 19; exact Calls.cls _ (Calls.below (rose_any _ _ _))) | (go_at_call 25; exact Calls.cls _ (Calls.below (roseRef_any _ _ _))) | (go_at_call 16; exact Calls.cls _ (Calls.below (falls_any _ _ _ _))) | (go_at_call 26; exact Calls.cls _ (Calls.below (fallsRef_any _ _ _ _))) | (go_at_call 17; exact Calls.cls _ (Calls.below (rises_any _ _ _))) | (go_at_call 27; exact Calls.cls _ (Calls.below (risesRef_any _ _ _))) | (go_at_call 21; exact Calls.cls _ (pairAlive_below _)))))
  refine wpQuiet_nil ?_
  intro _ hw'
  obtain ⟨nq, rfl⟩ := hw'
  go_wp2
  go_ret
  exact ⟨rfl, hb1.trans (nq.below.mono hb1.size)⟩
set_option maxHeartbeats 1000000 in
theorem tells_walk1 (a q b c : BitVec 32) (hr : (q == ~~~a) = false) (w : World) :
    Calls Try.prog 4 #[.agg #[.int .u32 (B a), .int .u32 (B q)], .agg #[.int .u32 (B a), .int .u32 (B b), .int .u32 (B c)]] w fun e w' => e = .returned (.bool true) ∧ Below w.heap.size w w' := by
  obtain ⟨W, hW⟩ : ∃ W, W = (((w.alloc (Obj.cells #[Value.int IntKind.u32 (B a), Value.int IntKind.u32 (B q)] 24)).alloc
          (Obj.cells #[Value.int IntKind.u32 (B a), Value.int IntKind.u32 (B b), Value.int IntKind.u32 (B c)] 32)).alloc
      (Obj.cells #[Value.int IntKind.u32 (B a), Value.int IntKind.u32 (B (~~~a))] 24)).alloc
      (Obj.cells #[Value.int IntKind.u32 (B a), Value.int IntKind.u32 (B (~~~a))] 24) := ⟨_, rfl⟩
  have p0 : W.cell? ⟨w.heap.size, 0, none⟩ = some (.int .u32 (B a)) := by rw [hW]; simp [go_sem]
  have p1 : W.cell? ⟨w.heap.size, 1, none⟩ = some (.int .u32 (B q)) := by rw [hW]; simp [go_sem]
  have x0 : W.cell? ⟨w.heap.size + 1, 0, none⟩ = some (.int .u32 (B a)) := by rw [hW]; simp [go_sem]
  have x1 : W.cell? ⟨w.heap.size + 1, 1, none⟩ = some (.int .u32 (B b)) := by rw [hW]; simp [go_sem]
  have x2 : W.cell? ⟨w.heap.size + 1, 2, none⟩ = some (.int .u32 (B c)) := by rw [hW]; simp [go_sem]
  have o0 : W.cell? ⟨w.heap.size + 1 + 1 + 1, 0, none⟩ = some (.int .u32 (B a)) := by rw [hW]; simp [go_sem]
  have o1 : W.cell? ⟨w.heap.size + 1 + 1 + 1, 1, none⟩ = some (.int .u32 (B (~~~a))) := by rw [hW]; simp [go_sem]
  have p0' := Cls.cell p0
  have p1' := Cls.cell p1
  have x0' := Cls.cell x0
  have x1' := Cls.cell x1
  have x2' := Cls.cell x2
  have o0' := Cls.cell o0
  have o1' := Cls.cell o1
  have hb : Below w.heap.size w W := by
    rw [hW]; exact ((((Below.refl _ _).alloc (Nat.le_refl _) _).alloc (by simp) _).alloc (by simp; omega) _).alloc (by simp; omega) _
  have HW := hid hW
  clear hW p0 p1 x0 x1 x2 o0 o1
  go_enter Try.func4, Try.ntmps4
  go_wp2_with (first | (go_at_call 15; refine (of_any _ _).mono ?_; rintro e w' ⟨rfl, rfl⟩))
  rw [← HW.out]
  refine wp_region_cls (by kernel_rfl) (by kernel_rfl) ?_
  repeat (go_big_quiet_step ((go_at_call 22; exact Calls.cls _ (Calls.below (otherRef_any _ _)))))
  refine wpQuiet_nil ?_
  intro _ hw'
  obtain ⟨n1, rfl⟩ := hw'
  have hb1 : Below w.heap.size w n1.wd := hb.trans (n1.below.mono hb.size)
  have p0 := Cls.cell (p0' n1)
  have p1 := Cls.cell (p1' n1)
  have x0 := Cls.cell (x0' n1)
  have x1 := Cls.cell (x1' n1)
  have x2 := Cls.cell (x2' n1)
  have o0 := Cls.cell (o0' n1)
  have o1 := Cls.cell (o1' n1)
  clear p0' p1' x0' x1' x2' o0' o1'
  go_wp2_with fail
  simp only [List.append_eq, List.cons_append, List.nil_append]
  refine wp_region_cls (by kernel_rfl) (by kernel_rfl) ?_
  repeat (go_big_quiet_step ((first | (go_at_call 22; exact Calls.cls _ (Calls.below (otherRef_any _ _))) | (go_at_call 20; exact Calls.cls _ (Calls.below1 (right_any _ _ _))) | (go_at_call 23; exact Calls.cls _ (Is_any _ _ _ _)) | (go_at_call 18; exact Calls.cls _ (Calls.below (fell_any _ _ _ _))) | (go_at_call 24; exact Calls.cls _ (Calls.below (fellRef_any _ _ _ _))) | (go_at_call 19; exact Calls.cls _ (Calls.below (rose_any _ _ _))) | (go_at_call 25; exact Calls.cls _ (Calls.below (roseRef_any _ _ _))) | (go_at_call 16; exact Calls.cls _ (Calls.below (falls_any _ _ _ _))) | (go_at_call 26; exact Calls.cls _ (Calls.below (fallsRef_any _ _ _ _))) | (go_at_call 17; exact Calls.cls _ (Calls.below (rises_any _ _ _))) | (go_at_call 27; exact Calls.cls _ (Calls.below (risesRef_any _ _ _))) | (go_at_call 21; exact Calls.cls _ (pairAlive_below _)))))
  refine wpQuiet_nil ?_
  intro _ hw'
  obtain ⟨nq, rfl⟩ := hw'
  go_wp2
  go_ret
  exact ⟨rfl, hb1.trans (nq.below.mono hb1.size)⟩
set_option maxHeartbeats 1000000 in
theorem tells_walk2 (p q a b c : BitVec 32) (hpa : (p == a) = false) (hr : (q == ~~~p) = true) (w : World) :
    Calls Try.prog 4 #[.agg #[.int .u32 (B p), .int .u32 (B q)], .agg #[.int .u32 (B a), .int .u32 (B b), .int .u32 (B c)]] w fun e w' => e = .returned (.bool true) ∧ Below w.heap.size w w' := by
  obtain ⟨W, hW⟩ : ∃ W, W = (((w.alloc (Obj.cells #[Value.int IntKind.u32 (B p), Value.int IntKind.u32 (B q)] 24)).alloc
          (Obj.cells #[Value.int IntKind.u32 (B a), Value.int IntKind.u32 (B b), Value.int IntKind.u32 (B c)] 32)).alloc
      (Obj.cells #[Value.int IntKind.u32 (B a), Value.int IntKind.u32 (B (~~~a))] 24)).alloc
      (Obj.cells #[Value.int IntKind.u32 (B a), Value.int IntKind.u32 (B (~~~a))] 24) := ⟨_, rfl⟩
  have p0 : W.cell? ⟨w.heap.size, 0, none⟩ = some (.int .u32 (B p)) := by rw [hW]; simp [go_sem]
  have p1 : W.cell? ⟨w.heap.size, 1, none⟩ = some (.int .u32 (B q)) := by rw [hW]; simp [go_sem]
  have x0 : W.cell? ⟨w.heap.size + 1, 0, none⟩ = some (.int .u32 (B a)) := by rw [hW]; simp [go_sem]
  have x1 : W.cell? ⟨w.heap.size + 1, 1, none⟩ = some (.int .u32 (B b)) := by rw [hW]; simp [go_sem]
  have x2 : W.cell? ⟨w.heap.size + 1, 2, none⟩ = some (.int .u32 (B c)) := by rw [hW]; simp [go_sem]
  have o0 : W.cell? ⟨w.heap.size + 1 + 1 + 1, 0, none⟩ = some (.int .u32 (B a)) := by rw [hW]; simp [go_sem]
  have o1 : W.cell? ⟨w.heap.size + 1 + 1 + 1, 1, none⟩ = some (.int .u32 (B (~~~a))) := by rw [hW]; simp [go_sem]
  have p0' := Cls.cell p0
  have p1' := Cls.cell p1
  have x0' := Cls.cell x0
  have x1' := Cls.cell x1
  have x2' := Cls.cell x2
  have o0' := Cls.cell o0
  have o1' := Cls.cell o1
  have hb : Below w.heap.size w W := by
    rw [hW]; exact ((((Below.refl _ _).alloc (Nat.le_refl _) _).alloc (by simp) _).alloc (by simp; omega) _).alloc (by simp; omega) _
  have HW := hid hW
  clear hW p0 p1 x0 x1 x2 o0 o1
  go_enter Try.func4, Try.ntmps4
  go_wp2_with (first | (go_at_call 15; refine (of_any _ _).mono ?_; rintro e w' ⟨rfl, rfl⟩))
  rw [← HW.out]
  refine wp_region_cls (by kernel_rfl) (by kernel_rfl) ?_
  repeat (go_big_quiet_step ((go_at_call 22; exact Calls.cls _ (Calls.below (otherRef_any _ _)))))
  refine wpQuiet_nil ?_
  intro _ hw'
  obtain ⟨n1, rfl⟩ := hw'
  have hb1 : Below w.heap.size w n1.wd := hb.trans (n1.below.mono hb.size)
  have p0 := Cls.cell (p0' n1)
  have p1 := Cls.cell (p1' n1)
  have x0 := Cls.cell (x0' n1)
  have x1 := Cls.cell (x1' n1)
  have x2 := Cls.cell (x2' n1)
  have o0 := Cls.cell (o0' n1)
  have o1 := Cls.cell (o1' n1)
  clear p0' p1' x0' x1' x2' o0' o1'
  go_wp2_with fail
  simp only [List.append_eq, List.cons_append, List.nil_append]
  refine wp_region_cls (by kernel_rfl) (by kernel_rfl) ?_
  repeat (go_big_quiet_step ((first | (go_at_call 22; exact Calls.cls _ (Calls.below (otherRef_any _ _))) | (go_at_call 20; exact Calls.cls _ (Calls.below1 (right_any _ _ _))) | (go_at_call 23; exact Calls.cls _ (Is_any _ _ _ _)) | (go_at_call 18; exact Calls.cls _ (Calls.below (fell_any _ _ _ _))) | (go_at_call 24; exact Calls.cls _ (Calls.below (fellRef_any _ _ _ _))) | (go_at_call 19; exact Calls.cls _ (Calls.below (rose_any _ _ _))) | (go_at_call 25; exact Calls.cls _ (Calls.below (roseRef_any _ _ _))) | (go_at_call 16; exact Calls.cls _ (Calls.below (falls_any _ _ _ _))) | (go_at_call 26; exact Calls.cls _ (Calls.below (fallsRef_any _ _ _ _))) | (go_at_call 17; exact Calls.cls _ (Calls.below (rises_any _ _ _))) | (go_at_call 27; exact Calls.cls _ (Calls.below (risesRef_any _ _ _))) | (go_at_call 21; exact Calls.cls _ (pairAlive_below _)))))
  refine wpQuiet_nil ?_
  intro _ hw'
  obtain ⟨nq, rfl⟩ := hw'
  go_wp2
  go_ret
  exact ⟨rfl, hb1.trans (nq.below.mono hb1.size)⟩
set_option maxHeartbeats 1000000 in
theorem tells_walk3 (p q a b c : BitVec 32) (hpa : (p == a) = false) (hr : (q == ~~~p) = false) (w : World) :
    Calls Try.prog 4 #[.agg #[.int .u32 (B p), .int .u32 (B q)], .agg #[.int .u32 (B a), .int .u32 (B b), .int .u32 (B c)]] w fun e w' => e = .returned (.bool true) ∧ Below w.heap.size w w' := by
  obtain ⟨W, hW⟩ : ∃ W, W = (((w.alloc (Obj.cells #[Value.int IntKind.u32 (B p), Value.int IntKind.u32 (B q)] 24)).alloc
          (Obj.cells #[Value.int IntKind.u32 (B a), Value.int IntKind.u32 (B b), Value.int IntKind.u32 (B c)] 32)).alloc
      (Obj.cells #[Value.int IntKind.u32 (B a), Value.int IntKind.u32 (B (~~~a))] 24)).alloc
      (Obj.cells #[Value.int IntKind.u32 (B a), Value.int IntKind.u32 (B (~~~a))] 24) := ⟨_, rfl⟩
  have p0 : W.cell? ⟨w.heap.size, 0, none⟩ = some (.int .u32 (B p)) := by rw [hW]; simp [go_sem]
  have p1 : W.cell? ⟨w.heap.size, 1, none⟩ = some (.int .u32 (B q)) := by rw [hW]; simp [go_sem]
  have x0 : W.cell? ⟨w.heap.size + 1, 0, none⟩ = some (.int .u32 (B a)) := by rw [hW]; simp [go_sem]
  have x1 : W.cell? ⟨w.heap.size + 1, 1, none⟩ = some (.int .u32 (B b)) := by rw [hW]; simp [go_sem]
  have x2 : W.cell? ⟨w.heap.size + 1, 2, none⟩ = some (.int .u32 (B c)) := by rw [hW]; simp [go_sem]
  have o0 : W.cell? ⟨w.heap.size + 1 + 1 + 1, 0, none⟩ = some (.int .u32 (B a)) := by rw [hW]; simp [go_sem]
  have o1 : W.cell? ⟨w.heap.size + 1 + 1 + 1, 1, none⟩ = some (.int .u32 (B (~~~a))) := by rw [hW]; simp [go_sem]
  have p0' := Cls.cell p0
  have p1' := Cls.cell p1
  have x0' := Cls.cell x0
  have x1' := Cls.cell x1
  have x2' := Cls.cell x2
  have o0' := Cls.cell o0
  have o1' := Cls.cell o1
  have hb : Below w.heap.size w W := by
    rw [hW]; exact ((((Below.refl _ _).alloc (Nat.le_refl _) _).alloc (by simp) _).alloc (by simp; omega) _).alloc (by simp; omega) _
  have HW := hid hW
  clear hW p0 p1 x0 x1 x2 o0 o1
  go_enter Try.func4, Try.ntmps4
  go_wp2_with (first | (go_at_call 15; refine (of_any _ _).mono ?_; rintro e w' ⟨rfl, rfl⟩))
  rw [← HW.out]
  refine wp_region_cls (by kernel_rfl) (by kernel_rfl) ?_
  repeat (go_big_quiet_step ((go_at_call 22; exact Calls.cls _ (Calls.below (otherRef_any _ _)))))
  refine wpQuiet_nil ?_
  intro _ hw'
  obtain ⟨n1, rfl⟩ := hw'
  have hb1 : Below w.heap.size w n1.wd := hb.trans (n1.below.mono hb.size)
  have p0 := Cls.cell (p0' n1)
  have p1 := Cls.cell (p1' n1)
  have x0 := Cls.cell (x0' n1)
  have x1 := Cls.cell (x1' n1)
  have x2 := Cls.cell (x2' n1)
  have o0 := Cls.cell (o0' n1)
  have o1 := Cls.cell (o1' n1)
  clear p0' p1' x0' x1' x2' o0' o1'
  go_wp2_with fail
  simp only [List.append_eq, List.cons_append, List.nil_append]
  refine wp_region_cls (by kernel_rfl) (by kernel_rfl) ?_
  repeat (go_big_quiet_step ((first | (go_at_call 22; exact Calls.cls _ (Calls.below (otherRef_any _ _))) | (go_at_call 20; exact Calls.cls _ (Calls.below1 (right_any _ _ _))) | (go_at_call 23; exact Calls.cls _ (Is_any _ _ _ _)) | (go_at_call 18; exact Calls.cls _ (Calls.below (fell_any _ _ _ _))) | (go_at_call 24; exact Calls.cls _ (Calls.below (fellRef_any _ _ _ _))) | (go_at_call 19; exact Calls.cls _ (Calls.below (rose_any _ _ _))) | (go_at_call 25; exact Calls.cls _ (Calls.below (roseRef_any _ _ _))) | (go_at_call 16; exact Calls.cls _ (Calls.below (falls_any _ _ _ _))) | (go_at_call 26; exact Calls.cls _ (Calls.below (fallsRef_any _ _ _ _))) | (go_at_call 17; exact Calls.cls _ (Calls.below (rises_any _ _ _))) | (go_at_call 27; exact Calls.cls _ (Calls.below (risesRef_any _ _ _))) | (go_at_call 21; exact Calls.cls _ (pairAlive_below _)))))
  refine wpQuiet_nil ?_
  intro _ hw'
  obtain ⟨nq, rfl⟩ := hw'
  go_wp2
  go_ret
  exact ⟨rfl, hb1.trans (nq.below.mono hb1.size)⟩
theorem tells_walk (p q a b c : BitVec 32) (w : World) :
    Calls Try.prog 4 #[.agg #[.int .u32 (B p), .int .u32 (B q)], .agg #[.int .u32 (B a), .int .u32 (B b), .int .u32 (B c)]] w fun e w' => e = .returned (.bool true) ∧ Below w.heap.size w w' := by
  by_cases h : p = a
  · subst h
    cases hr : (q == ~~~p)
    · exact tells_walk1 _ _ _ _ hr w
    · exact tells_walk0 _ _ _ _ hr w
  · have hpa : (p == a) = false := by simp [h]
    cases hr : (q == ~~~p)
    · exact tells_walk3 _ _ _ _ _ hpa hr w
    · exact tells_walk2 _ _ _ _ _ hpa hr w
end
end Go.Proofs.Ytgcpfmdldgmbnaa
