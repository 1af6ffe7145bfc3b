/-
  Contract of pair.Pair.Is.
-/
import Derived.Test.YtgcpfmdldgmbnaaPair
namespace Go.Proofs.Ytgcpfmdldgmbnaa
open Go.RowKit
section
theorem run_eql_pair (a b c d : Int) (w : World) : (binOp .eql 24 (.agg #[.int .u32 a, .int .u32 b]) (.agg #[.int .u32 c, .int .u32 d])).run Try.prog w = .ok (.bool (a == c && b == d)) w := by
  cases h : (a == c)
  · simp [go_sem, h]
  · by_cases e : b = d
    · simp [go_sem, h, e]
    · have e' : (b == d) = false := by simp [e]
      simp [go_sem, h, e']
attribute [local go_sem high] run_eql_pair
attribute [local go_sem] B_and B_or B_xor B_andNot B_not B_inj B_zero
theorem Is_any (a b c : BitVec 32) (w : World) : Calls Try.prog 23 #[.agg #[.int .u32 (B a), .int .u32 (B b)], .int .u32 (B c)] w fun e w' => e = .returned (.bool (a == c && b == ~~~c)) ∧ Below w.heap.size w w' := by
  have c0 : (w.alloc (Obj.cells #[Value.int IntKind.u32 (B a), Value.int IntKind.u32 (B b)] 24)).cell? ⟨w.heap.size, 0, none⟩ = some (.int .u32 (B a)) := by simp [World.cell?_alloc_at]
  have c1 : (w.alloc (Obj.cells #[Value.int IntKind.u32 (B a), Value.int IntKind.u32 (B b)] 24)).cell? ⟨w.heap.size, 1, none⟩ = some (.int .u32 (B b)) := by simp [World.cell?_alloc_at]
  have d0 := Cls.cell c0
  have d1 := Cls.cell c1
  clear c0 c1
  go_enter Try.func23, Try.ntmps23
  go_wp2_with fail
  refine wp_region_cls (by kernel_rfl) (by kernel_rfl) ?_
  repeat (go_big_quiet_step ((go_at_call 15; refine Calls.cls _ (Calls.below1 (of_any _ _)))))
  refine wpQuiet_nil ?_
  intro _ hw'
  obtain ⟨nq, rfl⟩ := hw'
  go_wp2
  go_ret
  exact ⟨rfl, ((Below.refl _ _).alloc (Nat.le_refl _) _).trans (nq.below.mono (by simp))⟩
end
end Go.Proofs.Ytgcpfmdldgmbnaa
