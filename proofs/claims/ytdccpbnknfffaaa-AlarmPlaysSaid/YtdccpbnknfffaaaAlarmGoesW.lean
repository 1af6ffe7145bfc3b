/-
  Layer 48: contract of the law's goes: what goes off in so many ticks, and what stands behind it.
-/
import Derived.Test.YtdccpbnknfffaaaAlarmTicks
import Derived.Test.YtdccpbnknfffaaaDeltaAll
import Derived.Maps.OwnIn
namespace Go.Proofs.Ytdccpbnknfffaaa
open Go.RowKit Go.Shelf Go.Maps
attribute [local go_sem] Oper.semAt_some
/-- Alarms, where the loop's own box and row are written. -/
theorem AS.wrote {w W W' : World} {base ab gb cb m n : Nat} {T : Nat → Prop} {r : TL} {ev ct : Int → Int} {u v : Value} {xs : List Value} (h : AS W base ab gb cb m T r ev ct) (hab : ab < w.heap.size) (hg : gb < w.heap.size) (hc : cb < w.heap.size) (hbx : Boxed W (w.heap.size + 1) 33 u) (hr : W.ownsRow (w.heap.size + 4) 3 1 v n xs)
    (hs : Save (fun k => k = w.heap.size + 1 ∨ v.ownBlock = some k) W W') : AS W' base ab gb cb m T r ev ct := by
  have hno : ∀ k, k < w.heap.size → ¬ (k = w.heap.size + 1 ∨ v.ownBlock = some k) := fun k hk e => by
    rcases e with e | e
    · omega
    · have := (hr.lt k e).1; omega
  have hblk := hs.block ab h.q.lt.1 (hno ab hab)
  refine ⟨?_, (World.cell?_of_block (w := W) (a := ⟨ab, 2, none⟩) hblk).trans h.c2, (World.cell?_of_block (w := W) (a := ⟨ab, 3, none⟩) hblk).trans h.c3, h.g.same fun _ _ e => (hs.block _ h.g.lt (hno gb hg)).trans e, h.k.same fun _ _ e => (hs.block _ h.k.lt (hno cb hc)).trans e, h.ne, h.lg, h.lc, h.tg, h.tc⟩
  obtain ⟨L, hq, h2⟩ := h.q
  refine ⟨L, hq.save hs (hno ab hab) fun x hx e => ?_, h2⟩
  obtain ⟨k, hk2, rfl⟩ := List.getElem_of_mem hx
  have h1 := hq.ch.at_ hk2
  rcases e with e | e
  · rw [e, show W.heap[w.heap.size + 1]? = _ from hbx] at h1
    have h3 := Option.some.inj h1
    simp at h3
  · rcases hr.2 with ⟨rfl, _⟩ | ⟨g1, _, _, rfl, _, h2, _⟩
    · cases e
    · have e2 : g1 = (L[k]).1 := Option.some.inj e
      rw [← e2, h2] at h1
      have h3 := Option.some.inj h1
      simp at h3
/-- What a round does to memory. -/
theorem round_wrote {w W w1 : World} {v v' : Value} {k m : Nat} {xs ys : List Value} {tmp : Obj} (hv : Boxed W (w.heap.size + 1) 33 v) (hrow : W.ownsRow (w.heap.size + 4) 3 1 v k xs) (hsz : w.heap.size + 4 ≤ W.heap.size)
    (hown' : w1.ownsRow (w.heap.size + 4) 3 1 v' m ys) (hgrow : (W.alloc tmp).grownBy w1 v.ownBlock) (ho : v'.ownBlock = v.ownBlock ∨ v'.ownBlock = some (W.alloc tmp).heap.size) :
    Save (fun k => k = w.heap.size + 1 ∨ v.ownBlock = some k) W (w1.setCell ⟨w.heap.size + 1, 0, none⟩ v') ∧ KpA w W (w1.setCell ⟨w.heap.size + 1, 0, none⟩ v') := by
  obtain ⟨hv1, hv2, hr2, hk2, hb2⟩ := hv.appended (by decide) (own_base hrow (show w.heap.size + 1 ≤ _ by omega)) (by omega) (Nat.le_refl _) (own_base hown' (show w.heap.size + 1 ≤ _ by omega)) hgrow
  have s1 : Save (fun k => k = w.heap.size + 1 ∨ v.ownBlock = some k) W (W.alloc tmp) := Save.of_below ((Below.refl _ W).alloc (Nat.le_refl _) _) _
  have s2 : Save (fun k => k = w.heap.size + 1 ∨ v.ownBlock = some k) (W.alloc tmp) w1 := (Save.of_grown hgrow).mono fun k e => .inr e
  have s3 : Save (fun k => k = w.heap.size + 1 ∨ v.ownBlock = some k) w1 (w1.setCell ⟨w.heap.size + 1, 0, none⟩ v') := (Save.set w1 (w.heap.size + 1) 0 v').mono fun k e => .inl e
  have hS := (s1.trans s2 fun _ _ h => h).trans s3 fun _ _ h => h
  refine ⟨hS, fun u hu => ?_⟩
  have huv : u = v := by
    have h1 := hu.cell
    rw [hv.cell] at h1
    exact (Option.some.inj h1).symm
  subst huv
  refine ⟨hS.mono fun k e => ?_, v', hv2, ?_⟩
  · rcases e with e | e
    · exact .inl e
    · exact .inr (.inl e)
  · rcases ho with e | e
    · exact .inl e
    · exact .inr ⟨_, by simp, e⟩
theorem ev_place (s : ST) {N p : Nat} (h : p < (evE s N).length) : ∃ n0, n0 < N ∧ (evE s n0).length ≤ p ∧ p < (evE s (n0 + 1)).length := by
  induction N with
  | zero => simp [evE] at h
  | succ N ih =>
    rcases Nat.lt_or_ge p (evE s N).length with h1 | h1
    · obtain ⟨n0, a, b⟩ := ih h1
      exact ⟨n0, by omega, b⟩
    · exact ⟨N, Nat.lt_succ_self _, h1, h⟩
theorem spec_all {s : ST} {N most : Nat} (h : (evE s N).length < most) : Spec s N most N :=
  ⟨Nat.le_refl _, fun _ hj => Nat.lt_of_le_of_lt (evE_mono s (Nat.le_of_lt hj)) h, .inl rfl⟩
theorem spec_fit {s : ST} {N most : Nat} {p : TL × (Int × Int)} (h : FitA s N p.1 p.2) (hm : p.1.length + 1 = most) : Spec s N most p.2.1.toNat ∧ (evE s p.2.1.toNat).take most = p.1 ++ [p.2] := by
  obtain ⟨n0, h1, h2, h3⟩ := ev_place s h.1
  have h4 : p.2.1.toNat = n0 + 1 := by rw [h.at_ h1 h2 h3]; simp only; omega
  rw [h4]
  refine ⟨⟨h1, fun j hj => ?_, .inr (by omega)⟩, ?_⟩
  · have := evE_mono s (show j ≤ n0 by omega)
    omega
  · have e1 := evE_prefix s (show n0 + 1 ≤ N from h1)
    rw [← e1, List.take_take, Nat.min_eq_left (by omega), ← hm, ← take_next h.1, ← h.2.2, ← h.2.1]
theorem fits_fits {w : World} {T : Nat → Prop} (hT : ∀ k, w.heap.size ≤ k → T k) {k : Nat} (h : TG w T k) : T k := by
  rcases h with ⟨h, _⟩ | h
  · exact h
  · exact hT k (by omega)
theorem OutA.wrote {w W W' : World} {base ab n : Nat} {T : Nat → Prop} {many most : Int} {pre pre' : TL} {v v' : Value} {xs : List Value} (h : OutA w base ab T many most pre W) (hba : base ≤ w.heap.size) (hr : W.ownsRow (w.heap.size + 4) 3 1 v n xs) (hsz : w.heap.size + 4 ≤ W.heap.size) (hT : ∀ k, w.heap.size ≤ k → T k)
    (hs : Save (fun k => k = w.heap.size + 1 ∨ v.ownBlock = some k) W W') (hv' : Boxed W' (w.heap.size + 1) 33 v') (hr' : W'.ownsRow (w.heap.size + 4) 3 1 v' (pre'.length * 2) (cells2 pre')) : OutA w base ab T many most pre' W' := by
  have hge : ∀ k, (k = w.heap.size + 1 ∨ v.ownBlock = some k) → k = w.heap.size + 1 ∨ w.heap.size + 4 ≤ k := fun k e => by
    rcases e with e | e
    · exact .inl e
    · exact .inr (hr.lt k e).1
  refine ⟨⟨v', hv', hr'⟩, boxed_save h.bm hs fun e => (by have := hge _ e; omega), boxed_save h.ba hs fun e => (by have := hge _ e; omega), boxed_save h.bn hs fun e => (by have := hge _ e; omega), ⟨⟨hs.below h.k.b (Nat.le_trans hba (by omega)) fun k e => (by have := hge _ e; omega), fun {B s n e v0 xs0} he hB ho => ?_⟩, (h.k.s.trans (S' := T) (hs.mono fun k e => hT k (by have := hge _ e; omega)) fun _ _ h => h)⟩, Nat.le_trans h.sz hs.size⟩
  have h1 := h.k.r he hB ho
  refine own_save h1 hs fun g hg e => ?_
  have hg2 := (ho.lt g hg).2
  have := hge _ e
  omega
def GoesPost (base ab gb cb m : Nat) (T : Nat → Prop) (s : ST) (N most : Nat) (w : World) (e : Ending) (w' : World) : Prop :=
  ∃ v n, e = .returned v ∧ Spec s N most n ∧ w'.ownsRow w.heap.size 3 1 v (((evE s n).take most).length * 2) (cells2 ((evE s n).take most)) ∧ AS w' base ab gb cb (m + 64 * n) T (evS s n).1 (evS s n).2.1 (evS s n).2.2 ∧ AK T base ab w w'
set_option maxRecDepth 100000 in
set_option maxHeartbeats 2000000 in
theorem goes_any (base ab gb cb m : Nat) (T : Nat → Prop) (s : ST) (most : Nat) (many : Int) (w : World) (hA : AS w base ab gb cb m T s.1 s.2.1 s.2.2) (hT : ∀ k, w.heap.size ≤ k → T k) (hR : Rng s) (hwf : ∀ x ∈ s.1, (kI x.1).wf = true)
    (hmN : m ≤ 100000) (hmany : many ≤ 500) (hmost : 1 ≤ most) (hmost2 : most ≤ 500) :
    Calls Try.prog 22 #[.pointer (some ⟨ab, 0, none⟩), .int .i64 many, .int .i64 (most : Int)] w fun e w' => GoesPost base ab gb cb m T s many.toNat most w e w' := by
  obtain ⟨i0, hi, hz0, hz1, hz2⟩ := info_parts infoN
  have hab := hA.q.lt.1
  have hgb := hA.g.lt
  have hcb := hA.k.lt
  have hba : base ≤ w.heap.size := by have := hA.q.lt; omega
  obtain ⟨w0, hw0⟩ : ∃ w0, w0 = (((w.alloc (.cells #[.int .i64 (most : Int)] 3)).alloc (.cells #[.slice none 0 0] 33)).alloc (.cells #[.pointer (some ⟨ab, 0, none⟩)] 51)).alloc (.cells #[.int .i64 many] 3) := ⟨_, rfl⟩
  have hsz0 : w0.heap.size = w.heap.size + 4 := by rw [hw0]; simp
  have hB0 : Below w.heap.size w w0 := by
    rw [hw0]
    exact ((((Below.refl _ w).alloc (Nat.le_refl _) _).alloc (by simp) _).alloc (by simp; omega) _).alloc (by simp; omega) _
  have x1 := Boxed.new w 3 (.int .i64 (most : Int))
  have x2 := Boxed.new (w.alloc (.cells #[.int .i64 (most : Int)] 3)) 33 (.slice none 0 0)
  have x3 := Boxed.new ((w.alloc (.cells #[.int .i64 (most : Int)] 3)).alloc (.cells #[.slice none 0 0] 33)) 51 (.pointer (some ⟨ab, 0, none⟩))
  have x4 := Boxed.new (((w.alloc (.cells #[.int .i64 (most : Int)] 3)).alloc (.cells #[.slice none 0 0] 33)).alloc (.cells #[.pointer (some ⟨ab, 0, none⟩)] 51)) 3 (.int .i64 many)
  have y1 := ((x1.alloc (.cells #[.slice none 0 0] 33)).alloc (.cells #[.pointer (some ⟨ab, 0, none⟩)] 51)).alloc (.cells #[.int .i64 many] 3)
  have y2 := (x2.alloc (.cells #[.pointer (some ⟨ab, 0, none⟩)] 51)).alloc (.cells #[.int .i64 many] 3)
  have y3 := x3.alloc (.cells #[.int .i64 many] 3)
  rw [← hw0] at y1 y2 y3 x4
  simp only [World.size_alloc] at y2 y3 x4
  have hg : ∀ {W1 : World}, w0.grownBy W1 none → Below w0.heap.size w0 W1 := fun h => (Below.refl _ w0).grown h (Nat.le_refl _) fun j e => by cases e
  have HT := fun E0 => hid (ticks1_turns 7 (by omega) base ab gb cb m T s many.toNat most many E0 w w0 hsz0 hA hT hR hwf (by omega) rfl hmany hmost fun W1 h1 h2 => by
    have hb := hg h1
    refine ⟨⟨⟨_, (hb.block _ y2.lt).trans y2, World.ownsRow_nil _ _ _ _⟩, (hb.block _ y1.lt).trans y1, (hb.block _ y3.lt).trans y3, (hb.block _ x4.lt).trans x4, AK.of_below (hB0.trans (hb.mono (by omega))) hba, by omega⟩, hB0.trans (hb.mono (by omega))⟩)
  have hnil : ∀ X, (binOp .neq 71 (.func (.func 36) #[] #[.pointer (some ⟨w.heap.size + 3, 0, none⟩), .pointer (some ⟨w.heap.size + 2, 0, none⟩)]) .nilFunc).run Try.prog X = .ok (.bool true) X := fun _ => by first | kernel_rfl | rfl
  have HS0 := hid hsz0
  have HW := hid hw0
  have HTT := hid hT
  clear x1 x2 x3 x4 y1 y2 y3 hsz0 hB0 hA hR hwf hg hT
  refine (callsIn_wide (n := 8)).1 ?_
  refine callsIn_of_wp_marks Try.func22 rfl trivial ?_ rfl
  simp only [Try.ntmps22, List.size_toArray, List.length_cons, List.length_nil, Nat.reduceAdd, Nat.reduceSub, Array.replicate_succ, Array.replicate_zero, List.push_toArray, List.append_toArray, List.nil_append, List.cons_append]
  clear hw0
  gi_wp2_with (refine ⟨trivial, ?_⟩; gi_at_call 34; refine (callsIn_wide.2 (ticks_any ab many _)).mono ?_; rintro e w1 ⟨rfl, rfl⟩)
  rw [← HW.out]
  have hd : w.heap.size ≤ w0.heap.size := by rw [HS0.out]; omega
  refine range_turnsS rfl (by omega) (gf := 36) (lb := #[.pointer (some ⟨w.heap.size + 3, 0, none⟩), .pointer (some ⟨w.heap.size + 2, 0, none⟩)]) rfl trivial (enters_of Try.func36 (by kernel_rfl) rfl) (fun _ => rfl) (HT 0).out (by rw [HS0.out]; exact kpa_ok w) (ia_calm hd hba hgb hcb HTT.out) (ia2_calm hd hba hgb hcb HTT.out) (ixa_calm hd hba hgb hcb HTT.out)
    (fun x => { tmps := #[.pointer (some ⟨ab, 0, none⟩), .int .i64 many, .int .i64 (most : Int), undef, undef, .pointer (some ⟨w.heap.size, 0, none⟩), .slice none 0 0, .pointer (some ⟨w.heap.size + 1, 0, none⟩), .func (.func 36) #[] #[.pointer (some ⟨w.heap.size + 1 + 1 + 1, 0, none⟩), .pointer (some ⟨w.heap.size + 1 + 1, 0, none⟩)], .int .i64 x.1, .int .i64 x.2, .pointer (some ⟨ab, 0, none⟩), .int .i64 many, .func (.func 36) #[] #[.pointer (some ⟨w.heap.size + 1 + 1 + 1, 0, none⟩), .pointer (some ⟨w.heap.size + 1 + 1, 0, none⟩)], .func (.func 36) #[] #[.pointer (some ⟨w.heap.size + 1 + 1 + 1, 0, none⟩), .pointer (some ⟨w.heap.size + 1 + 1, 0, none⟩)], .bool true, .func (.func 36) #[] #[.pointer (some ⟨w.heap.size + 1 + 1 + 1, 0, none⟩), .pointer (some ⟨w.heap.size + 1 + 1, 0, none⟩)], .int .i64 x.1, .int .i64 x.2, undef, undef, undef, undef, undef, undef, undef, undef, undef, undef, undef], defers := [] }) ?assign ?body ?done ?stop
  case assign =>
    intro l x W K hK
    simp only [enc2]
    gi_wp2
    exact hK
  case body =>
    rintro l pre x W hI hF
    obtain ⟨n0, hn0, hx1, hS, hO, hlt⟩ := hI.at_ hF
    obtain ⟨v, hv, hrow⟩ := hO.out
    have hc := hv.cell
    have hcm := hO.bm.cell
    have HF := hid hF
    have HSS := hid hS
    have HOO := hid hO
    have hszW : w.heap.size + 4 ≤ W.heap.size := by have := hO.sz; omega
    obtain ⟨x1, x2⟩ := x
    obtain rfl : x1 = (n0 : Int) + 1 := hx1
    clear hF hS hO hI
    gi_wp2_with (gi_at_builtin; refine wpListIn_append_own_at _ rfl _ _ 33 rfl (w.heap.size + 4) 3 i0 (.int .i64 0) 1 8 Try.underlying33 hi hz0 hz1 hz2 rfl (by decide) _ _ _ rfl (hrow.alloc _) ⟨W.heap.size, 0, none⟩ 2 2 [.int .i64 ((n0 : Int) + 1), .int .i64 x2] rfl rfl (cells_new2 _ _ _ _) (by simp [Value.oneCell']) (by unfold maxLen; omega) (by omega) (by simp; omega) ?_; intro v' w1 hown' hgrow _ hob; obtain ⟨g', cap', rfl⟩ := ownsRow_succ hown'; obtain ⟨hv1, hv2, hr2, hk2, hb2⟩ := hv.appended (by decide) (own_base hrow (show w.heap.size + 1 ≤ _ by omega)) (by omega) (Nat.le_refl _) (own_base hown' (show w.heap.size + 1 ≤ _ by omega)) hgrow; have hr4 := hown'.kept (grownBy_setCell' w1 (w.heap.size + 1) (.slice (some ⟨g', 0, none⟩) (pre.length * 2 + 1 + 1) cap')) (.inr (hv1.not_row (by decide) hown').symm); have hc1 := hv1.cell; have hf1 := hv1.frozen; have hcm1 := ((HOO.out.bm.alloc _).kept hgrow (fun e => by have := (hrow.lt _ e.symm).1; omega)).cell)
    all_goals
      rename_i hq
      obtain ⟨k1, k2⟩ := round_wrote hv hrow hszW hown' hgrow hob
      have hS2 := AS.wrote HSS.out hab hgb hcb hv hrow k1
      rw [show n0 + 1 = (((n0 : Int) + 1, x2) : Int × Int).1.toNat by simp only; omega] at hS2
      have hO2 := HOO.out.wrote hba hrow hszW HTT.out k1 hv2 (by rw [cells2_snoc, show (pre ++ [((n0 : Int) + 1, x2)]).length * 2 = pre.length * 2 + 2 by rw [List.length_append]; simp; omega]; exact hr4)
    · exact ⟨hk2.from _, ⟨rfl, HF.out, hS2, hO2, by simp at hq; simp only; omega⟩, k2⟩
    · exact ⟨hk2.from _, ⟨HF.out, hS2, hO2, by simp at hq; simp only; omega⟩, k2⟩
  case done =>
    rintro D ys W hD rfl ⟨n, hn, hS, hO, hl, _, hcase⟩ hK
    obtain rfl : n = many.toNat := by
      rcases hcase with ⟨n0, rfl, h1, h2⟩ | ⟨h1, _⟩
      · have := evE_mono s hn; omega
      · exact h1
    obtain ⟨v, hv, hrow⟩ := hO.out
    have hc := hv.cell
    have HSS := hid hS
    have HOO := hid hO
    clear hS hO hcase
    gi_wp2
    refine ⟨by simp, .inl ⟨_, _, rfl, run_takeDeferred hK, ?_⟩⟩
    have hD1 : w.heap.size ≤ D := by rw [HS0.out] at hD; omega
    refine ⟨_, results_tmp rfl _ _ _, v, many.toNat, rfl, spec_all hl, ?_, (AS.put _ HSS.out hgb hcb hD1 hK rfl).cast fun k _ h => fits_fits HTT.out h, (HOO.out.put _ hba hD1 HTT.out hK rfl).k⟩
    rw [List.take_of_length_le (by omega)]
    exact own_base (ownsRow_putObj hrow _ hK rfl) (by omega)
  case stop =>
    rintro D c p W hD ⟨rfl, hF, hS, hO, hl⟩ hK
    obtain ⟨v, hv, hrow⟩ := hO.out
    have hc := hv.cell
    have HSS := hid hS
    have HOO := hid hO
    have HSP := hid (spec_fit hF hl)
    clear hS hO hF
    gi_wp2
    refine ⟨by simp, .inl ⟨_, _, rfl, run_takeDeferred hK, ?_⟩⟩
    have hD1 : w.heap.size ≤ D := by rw [HS0.out] at hD; omega
    refine ⟨_, results_tmp rfl _ _ _, v, _, rfl, HSP.out.1, ?_, (AS.put _ HSS.out hgb hcb hD1 hK rfl).cast fun k _ h => fits_fits HTT.out h, (HOO.out.put _ hba hD1 HTT.out hK rfl).k⟩
    rw [HSP.out.2]
    exact own_base (ownsRow_putObj hrow _ hK rfl) (by omega)
end Go.Proofs.Ytdccpbnknfffaaa
