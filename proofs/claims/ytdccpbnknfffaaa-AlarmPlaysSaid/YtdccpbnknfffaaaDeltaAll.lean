/-
  Contract of the law's list of a queue's timers.
-/
import Derived.Test.YtdccpbnknfffaaaDeltaRef2
namespace Go.Proofs.Ytdccpbnknfffaaa
open Go.RowKit Go.Shelf
attribute [local go_sem] Oper.semAt_some
def flatI (r : TL) : List Int := r.flatMap fun x => [x.1, x.2]
theorem flat_iv (r : TL) : iv (flatI r) = cells2 r := by
  induction r with
  | nil => rfl
  | cons x l ih =>
    have e1 : flatI (x :: l) = [x.1, x.2] ++ flatI l := by simp [flatI]
    have e2 : cells2 (x :: l) = [.int .i64 x.1, .int .i64 x.2] ++ cells2 l := by simp [cells2]
    rw [e1, e2, iv_append, ih]; rfl
theorem flat_length (r : TL) : (flatI r).length = r.length * 2 := by
  have := congrArg List.length (flat_iv r)
  rw [cells2_length] at this
  rw [← this]; simp [iv]
theorem cells_new2 (W : World) (u v : Value) (t : TypeId) : ∀ (j : Nat) (x : Value), [u, v][j]? = some x → (W.alloc (Obj.cells #[u, v] t)).cell? ((⟨W.heap.size, 0, none⟩ : Addr).add j) = some x := fun j x hj => by
  rw [add_off, Nat.zero_add, World.cell?_alloc_at _ _ _ _ rfl]; simpa using hj
set_option maxRecDepth 100000 in
set_option maxHeartbeats 400000 in
theorem dlist_any (base qb : Nat) (r : TL) (w : World) (h : QS w base qb r) :
    Calls Try.prog 17 #[.pointer (some ⟨qb, 0, none⟩)] w fun e w' => ∃ u, e = .returned u ∧ w'.ownsRow w.heap.size 3 1 u (flatI (srt r)).length (iv (flatI (srt r))) ∧ Below w.heap.size w w' := by
  obtain ⟨L, hq, hI⟩ := h
  obtain ⟨hb, hn⟩ := hI.bnd
  obtain ⟨i0, hi, hz0, hz1, hz2⟩ := info_parts infoN
  have hv1 := Boxed.new w 33 (.slice none 0 0)
  have hv2 := Boxed.new (w.alloc (.cells #[.slice none 0 0] 33)) 23 (.pointer (some ⟨qb, 0, none⟩))
  rw [World.size_alloc] at hv2
  have hB0 : Below w.heap.size w ((w.alloc (.cells #[.slice none 0 0] 33)).alloc (.cells #[.pointer (some ⟨qb, 0, none⟩)] 23)) := (((Below.refl _ w).alloc (Nat.le_refl _) _).alloc (by simp) _)
  have HSQ := hid (dall1_in 7 (by omega) (w.heap.size + 1) base qb 0 L w _ hn hB0 hv2 hq hb)
  have HA := hid hI.abs
  have hlr : (absL 0 (tlOf L)).length ≤ 64 := by rw [absL_length, tlOf_length]; exact hn
  obtain ⟨Y, hY⟩ : ∃ Y, absL 0 (tlOf L) = Y := ⟨_, rfl⟩
  rw [hY] at HSQ HA hlr
  obtain ⟨N, hN⟩ : ∃ N, L.length = N := ⟨_, rfl⟩
  rw [hN] at HSQ hn
  rw [← HA.out]
  have hY2 : N = Y.length := by rw [← hN, ← hY, absL_length, tlOf_length]
  clear hY hN hq hb hI HA
  refine (callsIn_wide (n := 8)).1 ?_
  refine callsIn_of_wp_marks Try.func17 rfl trivial ?_ rfl
  simp only [Try.ntmps17, List.size_toArray, List.length_cons, List.length_nil, Nat.reduceAdd, Nat.reduceSub, Array.replicate_succ, Array.replicate_zero, List.push_toArray, List.append_toArray, List.nil_append, List.cons_append]
  have hnil : ∀ X, (binOp .neq 71 (.func (.func 35) #[] #[.pointer (some ⟨w.heap.size + 1, 0, none⟩)]) .nilFunc).run Try.prog X = .ok (.bool true) X := fun _ => by first | kernel_rfl | rfl
  gi_wp2_with (refine ⟨trivial, ?_⟩; gi_at_call 33; refine (callsIn_wide.2 (dall_any qb 0 _)).mono ?_; rintro e w1 ⟨rfl, rfl⟩)
  refine wpIn_rangeFunc_ownF rfl (by omega) (gf := 35) (lb := #[.pointer (some ⟨w.heap.size + 1, 0, none⟩)]) rfl trivial (enters_of Try.func35 (by kernel_rfl) rfl) HSQ.out belowK_t (belowK_b (by simp; omega)) (Below.refl _ _) (fun _ => rfl)
    (fun pre W => (∃ v, Boxed W w.heap.size 33 v ∧ W.ownsRow w.heap.size 3 1 v (pre.length * 2) (cells2 pre) ∧ True) ∧ Below w.heap.size w W)
    (fun _ _ _ => False)
    (OwnFrom.and (Own.from (holdsRow_own w.heap.size w.heap.size 33 3 1 (fun pre : TL => pre.length * 2) cells2 (fun _ _ => True)) _) (ownFrom_below (Nat.le_refl _) (by simp; omega)))
    (fun _ _ _ _ _ hs _ _ => hs)
    ⟨⟨_, hv1.alloc _, World.ownsRow_nil _ _ _ _, trivial⟩, hB0⟩
    (fun x => { tmps := #[.pointer (some ⟨qb, 0, none⟩), undef, .slice none 0 0, .pointer (some ⟨w.heap.size, 0, none⟩), .func (.func 35) #[] #[.pointer (some ⟨w.heap.size + 1, 0, none⟩)], .int .i64 x.1, .int .i64 x.2, .pointer (some ⟨qb, 0, none⟩), .func (.func 35) #[] #[.pointer (some ⟨w.heap.size + 1, 0, none⟩)], .func (.func 35) #[] #[.pointer (some ⟨w.heap.size + 1, 0, none⟩)], .bool true, .func (.func 35) #[] #[.pointer (some ⟨w.heap.size + 1, 0, none⟩)], .int .i64 x.1, .int .i64 x.2, undef, undef, undef, undef, undef, undef], defers := [] }) ?assign ?body ?done ?stop
  case assign =>
    intro l x W K hK
    simp only [enc2]
    gi_wp2
    exact hK
  case body =>
    rintro l pre ⟨x1, x2⟩ W ⟨⟨v, hv, hrow, _⟩, hB⟩ hlt
    have hc := hv.cell
    have hl64 : pre.length < 64 := by omega
    gi_wp2_with (gi_at_builtin; refine wpListIn_append_own _ rfl _ _ 33 rfl w.heap.size 3 i0 (.int .i64 0) 1 8 Try.underlying33 hi hz0 hz1 hz2 rfl (by decide) _ _ _ rfl (hrow.alloc _) ⟨W.heap.size, 0, none⟩ 2 2 [.int .i64 x1, .int .i64 x2] rfl rfl (cells_new2 _ _ _ _) (by simp [Value.oneCell']) (by unfold maxLen; omega) (by omega) (by have := hB.size; simp; omega) ?_; intro v' w1 hown' hgrow _; obtain ⟨g', cap', rfl⟩ := ownsRow_succ hown'; obtain ⟨hv1, hv2, hr2, hk2, hb2⟩ := hv.appended (by decide) hrow hB.size (Nat.le_refl _) hown' hgrow; have hc1 := hv1.cell; have hf1 := hv1.frozen)
    exact ⟨hk2, hb2, ⟨_, hv2, by rw [cells2_snoc, show (pre ++ [(x1, x2)]).length * 2 = pre.length * 2 + 2 by rw [List.length_append]; simp; omega]; exact hr2⟩, hB.trans hb2⟩
  case done =>
    rintro D ys W hD rfl ⟨⟨v, hv, hrow, _⟩, hB⟩ hK
    have hc := hv.cell
    gi_wp2
    refine ⟨by simp, .inl ⟨_, _, rfl, run_takeDeferred hK, ?_⟩⟩
    exact ⟨_, results_tmp rfl _ _ _, v, rfl, by rw [flat_iv, flat_length]; exact ownsRow_putObj hrow _ hK rfl, hB.trans (belowK_b (w := w) (Nat.le_refl _) W D _ _ (by simp at hD; omega) hK rfl rfl)⟩
  case stop =>
    rintro D c pre W _ _ h _
    exact h.elim
end Go.Proofs.Ytdccpbnknfffaaa
