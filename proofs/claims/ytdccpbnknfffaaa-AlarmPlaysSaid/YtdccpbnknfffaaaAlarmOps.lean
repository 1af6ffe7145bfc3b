/-
  Layer 48: contracts of New, Set, Stop, Due, Count, Len.
-/
import Derived.Test.YtdccpbnknfffaaaAlarm
namespace Go.Proofs.Ytdccpbnknfffaaa
open Go.RowKit Go.Maps
theorem keyI {i : Int} (h : (kI i).wf = true) : keyOf Try.prog 3 (.int .i64 i) = some (kI i) := keyOf_int_mk Try.underlying3 h
theorem wf_small {v : Int} (h0 : -65536 ≤ v) (h1 : v ≤ 65537) : (Lit.int .i64 v).wf = true := by
  show (decide (IntKind.i64.min ≤ v) && decide (v ≤ IntKind.i64.max)) = true
  have e1 : IntKind.i64.min = -9223372036854775808 := by decide
  have e2 : IntKind.i64.max = 9223372036854775807 := by decide
  rw [e1, e2, Bool.and_eq_true, decide_eq_true_eq, decide_eq_true_eq]
  omega
def okS (id t ev : Int) (r : TL) : Bool := decide (0 ≤ ev ∧ ev ≤ 65536) && okR id t r
def SetPost (base ab gb cb m : Nat) (T : Nat → Prop) (r : TL) (ev ct : Int → Int) (id t e0 : Int) (w : World) (e : Ending) (w' : World) : Prop :=
  e = .returned (.bool (okS id t e0 r)) ∧ AS w' base ab gb cb (m + 1) T (if okS id t e0 r then addR id t r else r) (if okS id t e0 r then putM ev id e0 else ev) (if okS id t e0 r then putM ct id 0 else ct) ∧ AK T base ab w w'
set_option maxRecDepth 100000 in
set_option maxHeartbeats 1000000 in
theorem aset_any (base ab gb cb m : Nat) (T : Nat → Prop) (r : TL) (ev ct : Int → Int) (id t e0 : Int) (w : World) (h : AS w base ab gb cb m T r ev ct) (hm : m ≤ 1000000) (hid1 : (kI id).wf = true) (hT : ∀ k, w.heap.size ≤ k → T k) :
    Calls Try.prog 21 #[.pointer (some ⟨ab, 0, none⟩), .int .i64 id, .int .i64 t, .int .i64 e0] w fun e w' => SetPost base ab gb cb m T r ev ct id t e0 w e w' := by
  have H := hid h
  by_cases hg : e0 < 0 ∨ 65536 < e0
  · have HO : Hid (okS id t e0 r = false) := by
      show _ = _
      unfold okS
      rw [decide_eq_false (by omega)]; rfl
    have key : decide (e0 < 0) = true ∨ (decide (e0 < 0) = false ∧ decide (65536 < e0) = true) := by
      simp only [decide_eq_true_eq, decide_eq_false_iff_not]; omega
    clear h hg
    rcases key with t1 | ⟨t1, t2⟩
    all_goals
      go_enter Try.func21, Try.ntmps21
      go_wp2
      go_ret
      refine ⟨by rw [HO.out] <;> rfl, ?_, AK.refl _ _ _ _⟩
      rw [HO.out]
      exact H.out.mono (by omega)
  · have t1 : decide (e0 < 0) = false := by simp; omega
    have t2 : decide (65536 < e0) = false := by simp; omega
    have hwe : (Lit.int .i64 e0).wf = true := wf_small (by omega) (by omega)
    have HO : Hid (okS id t e0 r = okR id t r) := by
      show _ = _
      unfold okS
      rw [decide_eq_true (by omega), Bool.true_and]
    have HA := hid (qaddM_any base ab T r id t w h.q hT)
    obtain ⟨dd, hdd⟩ : ∃ dd, okR id t r = dd := ⟨_, rfl⟩
    have HDD := hid hdd
    rw [hdd] at HA
    clear h hg hdd
    go_enter Try.func21, Try.ntmps21
    go_wp2_with fail
    refine HA.out.mono ?_
    rintro e w1 ⟨rfl, q1, k1, m1⟩
    clear HA
    cases dd with
    | false =>
      have HN := hid (H.out.qm q1 m1)
      have K1 := hid k1
      clear q1 k1 m1
      go_wp2
      go_ret
      refine ⟨by rw [HO.out, HDD.out] <;> rfl, ?_, K1.out⟩
      rw [HO.out, HDD.out]
      have := HN.out
      unfold addR at this
      rw [HDD.out] at this
      exact AS.mono this (by omega)
    | true =>
      have h1 := H.out.qm q1 m1
      have H1 := hid h1
      have K1 := hid k1
      have c2 := h1.c2
      have c3 := h1.c3
      obtain ⟨DC, dc1, dc2⟩ := h1.k
      obtain ⟨DG, dg1, dg2⟩ := h1.g
      have HDC := hid dc2
      have HDG := hid dg2
      clear h1 q1 k1 m1 dc2 dg2
      go_wp2_with (first | (at_delete; refine wpList_delete_own _ rfl _ _ 73 3 rfl 3 ikeyed Try.underlying73 _ cb m DC rfl dc1 _ _ rfl (keyI hid1) ?_; intro w2 hown2 hturn2; have HT2 := hid (H1.out.turn hturn2.grown (.inr rfl)); have HK2 := hid (IMap.del HDC.out hown2); have g2 := HT2.out.2.1; have HG2 := hid (HT2.out.2.2.2.1 (Ne.symm H1.out.ne)); have hG2 := HG2.out; obtain ⟨D2, e1, e2⟩ := hG2; have HE2 := hid e2; clear e2 c3 dc1 dg1 hown2 hturn2) | (at_mapUpdate; refine wpList_mapUpdate_own _ rfl _ _ _ 73 rfl 3 3 ikeyed Try.underlying73 _ gb m D2 rfl e1 (by unfold maxLen; omega) _ _ _ rfl rfl (keyI hid1) _ [] (plainElem_int Try.underlying3 hwe) ?_; intro w3 hown3 hgrow3))
      go_ret
      have HI := IMap.put HE2.out e1.isMap hown3
      obtain ⟨x1, x2, x3, _, _, x6⟩ := HT2.out
      have A2 : AS w2 base ab gb cb m T (addR id t r) ev (putM ct id 0) := ⟨x1, x2, x3, HG2.out, HK2.out, H1.out.ne, H1.out.lg, H1.out.lc, H1.out.tg, H1.out.tc⟩
      obtain ⟨y1, y2, y3, _, y5, y6⟩ := A2.turn hgrow3 (.inl rfl)
      refine ⟨by rw [HO.out, HDD.out] <;> rfl, ?_, (K1.out.trans x6).trans y6⟩
      rw [HO.out, HDD.out]
      exact ⟨y1, y2, y3, HI, (y5 H1.out.ne).mono (by omega), H1.out.ne, H1.out.lg, H1.out.lc, H1.out.tg, H1.out.tc⟩
/-! ### Stop -/
def StopPost (base ab gb cb m : Nat) (T : Nat → Prop) (r : TL) (ev ct : Int → Int) (id : Int) (w : World) (e : Ending) (w' : World) : Prop :=
  e = .returned (.bool (look id r).isSome) ∧ AS w' base ab gb cb m T (dropR id r) (putM ev id 0) (putM ct id 0) ∧ AK T base ab w w'
set_option maxRecDepth 100000 in
set_option maxHeartbeats 1000000 in
theorem astop_any (base ab gb cb m : Nat) (T : Nat → Prop) (r : TL) (ev ct : Int → Int) (id : Int) (w : World) (h : AS w base ab gb cb m T r ev ct) (hid1 : (kI id).wf = true) :
    Calls Try.prog 27 #[.pointer (some ⟨ab, 0, none⟩), .int .i64 id] w fun e w' => StopPost base ab gb cb m T r ev ct id w e w' := by
  have H := hid h
  have c2 := h.c2
  obtain ⟨DG, dg1, dg2⟩ := h.g
  have HDG := hid dg2
  clear h dg2
  go_enter Try.func27, Try.ntmps27
  go_wp2_with (first | (at_delete; refine wpList_delete_own _ rfl _ _ 73 3 rfl 3 ikeyed Try.underlying73 _ gb m DG rfl dg1 _ _ rfl (keyI hid1) ?_; intro w1 hown1 hturn1; have HT1 := hid (H.out.turn hturn1.grown (.inl rfl)); have A1 : Hid (AS w1 base ab gb cb m T r (putM ev id 0) ct) := ⟨HT1.out.1, HT1.out.2.1, HT1.out.2.2.1, IMap.del HDG.out hown1, HT1.out.2.2.2.2.1 H.out.ne, H.out.ne, H.out.lg, H.out.lc, H.out.tg, H.out.tc⟩; have K1 := hid HT1.out.2.2.2.2.2; have g3 := A1.out.c3; have hk1 := A1.out.k; obtain ⟨D1, e1, e2⟩ := hk1; have HE1 := hid e2; clear HT1 hown1 hturn1 c2 dg1 e2) | (at_delete; refine wpList_delete_own _ rfl _ _ 73 3 rfl 3 ikeyed Try.underlying73 _ cb m D1 rfl e1 _ _ rfl (keyI hid1) ?_; intro w2 hown2 hturn2; have HT2 := hid (A1.out.turn hturn2.grown (.inr rfl)); have A2 : Hid (AS w2 base ab gb cb m T r (putM ev id 0) (putM ct id 0)) := ⟨HT2.out.1, HT2.out.2.1, HT2.out.2.2.1, HT2.out.2.2.2.1 (Ne.symm A1.out.ne), IMap.del HE1.out hown2, A1.out.ne, A1.out.lg, A1.out.lc, A1.out.tg, A1.out.tc⟩; have K2 := hid (K1.out.trans HT2.out.2.2.2.2.2); clear HT2 hown2 hturn2 g3 e1 A1 K1) | (go_at_call 8; refine (qcancelM_any base ab T r id _ A2.out.q).mono ?_; rintro e w3 ⟨rfl, q3, k3, m3⟩))
  go_ret
  exact ⟨rfl, A2.out.qm q3 m3, K2.out.trans k3⟩
/-! ### New, Due, Len, Count -/
theorem anew_any (w : World) : Calls Try.prog 20 #[] w fun e w' => e = .returned (.pointer (some ⟨w.heap.size + 2, 0, none⟩)) ∧ AS w' w.heap.size (w.heap.size + 2) w.heap.size (w.heap.size + 1) 0 (fun k => w.heap.size ≤ k) [] (fun _ => 0) (fun _ => 0) ∧ Below w.heap.size w w' := by
  have hb1 := (Below.refl w.heap.size w).alloc (Nat.le_refl _) (Obj.map #[] 0)
  have hb2 := hb1.alloc hb1.size (Obj.map #[] 0)
  have i1 := IMap.made w
  have i2 := IMap.made (w.alloc (Obj.map #[] 0))
  have i1' := i1.same (w' := (w.alloc (Obj.map #[] 0)).alloc (Obj.map #[] 0)) fun es ck e => (Below.heap_alloc _ _ _ i1.lt).trans e
  obtain ⟨W, hW⟩ : ∃ W, W = (w.alloc (Obj.map #[] 0)).alloc (Obj.map #[] 0) := ⟨_, rfl⟩
  have hsz : W.heap.size = w.heap.size + 2 := by rw [hW]; simp
  rw [World.size_alloc] at i2
  rw [← hW] at i1' i2 hb2
  have hb3 := hb2.alloc hb2.size (Obj.cells #[.pointer none, .int .i64 0, .map (some w.heap.size), .map (some (w.heap.size + 1))] 75)
  have A : AS (W.alloc (Obj.cells #[.pointer none, .int .i64 0, .map (some w.heap.size), .map (some (w.heap.size + 1))] 75)) w.heap.size W.heap.size w.heap.size (w.heap.size + 1) 0 (fun k => w.heap.size ≤ k) [] (fun _ => 0) (fun _ => 0) := by
    refine ⟨⟨[], ⟨?_, ?_, ?_, ?_, trivial, by simp, fun x hx => (by cases hx), by omega, fun x hx => (by cases hx)⟩, dinv_nil, (by show w.heap.size ≤ W.heap.size; omega), fun x hx => (by cases hx)⟩, ?_, ?_, i1'.same fun es ck e => (Below.heap_alloc _ _ _ i1'.lt).trans e, i2.same fun es ck e => (Below.heap_alloc _ _ _ i2.lt).trans e, by omega, by omega, by omega, Nat.le_refl _, Nat.le_succ _⟩
    · rw [World.cell?_alloc_at _ _ _ _ rfl]; rfl
    · rw [World.cell?_alloc_at _ _ _ _ rfl]; rfl
    · exact World.frozen?_alloc_at _ _ _ _ rfl
    · exact World.frozen?_alloc_at _ _ _ _ rfl
    · rw [World.cell?_alloc_at _ _ _ _ rfl]; rfl
    · rw [World.cell?_alloc_at _ _ _ _ rfl]; rfl
  rw [hsz] at A
  rw [hW] at A hb3
  have HA := hid A
  have HB := hid hb3
  clear hb1 hb2 hb3 i1 i2 i1' A hsz hW W
  have hmm := @run_makeMap Try.prog
  go_enter Try.func20, Try.ntmps20
  go_wp2
  go_ret
  exact ⟨rfl, HA.out, HB.out⟩
theorem adue_any (base ab gb cb m : Nat) (T : Nat → Prop) (r : TL) (ev ct : Int → Int) (id : Int) (w : World) (h : AS w base ab gb cb m T r ev ct) :
    Calls Try.prog 24 #[.pointer (some ⟨ab, 0, none⟩), .int .i64 id] w fun e w' => e = .returned (.tuple #[.int .i64 (dR2 (look id r)).1, .bool (dR2 (look id r)).2]) ∧ Below w.heap.size w w' := by
  have H := hid h
  clear h
  go_enter Try.func24, Try.ntmps24
  go_wp2_with (go_at_call 15; refine (qdue_any base ab r id _ H.out.q.qs).mono ?_; rintro e w3 ⟨rfl, b3⟩)
  go_ret2
  exact ⟨rfl, b3⟩
theorem alen_any (base ab gb cb m : Nat) (T : Nat → Prop) (r : TL) (ev ct : Int → Int) (w : World) (h : AS w base ab gb cb m T r ev ct) :
    Calls Try.prog 31 #[.pointer (some ⟨ab, 0, none⟩)] w fun e w' => e = .returned (.int .i64 (r.length : Int)) ∧ w = w' := by
  have H := hid h
  clear h
  go_enter Try.func31, Try.ntmps31
  go_wp2_with (go_at_call 16; refine (qlen_any base ab r _ H.out.q.qs).mono ?_; rintro e w3 ⟨rfl, rfl⟩)
  go_ret
  exact ⟨rfl, rfl⟩
theorem acount_any (base ab gb cb m : Nat) (T : Nat → Prop) (r : TL) (ev ct : Int → Int) (id : Int) (w : World) (h : AS w base ab gb cb m T r ev ct) (hid1 : (kI id).wf = true) :
    Calls Try.prog 32 #[.pointer (some ⟨ab, 0, none⟩), .int .i64 id] w fun e w' => e = .returned (.int .i64 (ct id)) ∧ w = w' := by
  have c3 := h.c3
  obtain ⟨D, d1, d2⟩ := h.k
  have HD := hid d2
  clear h d2
  go_enter Try.func32, Try.ntmps32
  go_wp2_with (at_lookup; refine wpList_lookup_own_int _ rfl _ _ 73 rfl 3 3 .i64 ikeyed Try.underlying73 Try.underlying3 (zeroI _) cb m D rfl d1 _ _ rfl (keyI hid1) ?_; intro c hat hwc; have hc := (HD.out id hid1).symm.trans hat)
  go_ret
  have e : ct id = c := by injection hc with h1; injection h1
  exact ⟨by rw [e]; rfl, rfl⟩
end Go.Proofs.Ytdccpbnknfffaaa
