/-
  Contracts: All's iterator, Due.
-/
import Derived.RangeFuncNested
import Derived.RangeFuncBound
import Derived.RangeFuncCalls
import Derived.RangeFuncLeaves
import Derived.RangeFuncFrom
import Derived.RangeFuncBox
import Derived.Shelf.Abstract
import Derived.Shelf.RegionOpen
import Derived.WalkKit
import Derived.OwnWalkIn
import Derived.TacticsInMore
import Derived.LoopNIn
import Derived.LoopIn
import Derived.ProofKit
import Derived.Maps.AppendAt
import Derived.Test.YtdccpbnknfffaaaDelta
namespace Go.Proofs.Ytdccpbnknfffaaa
open Go.RowKit Go.Shelf
attribute [local go_sem] Oper.semAt_some
theorem sumB_succ : ∀ {L : List (Nat × Int × Int)} {k : Nat} (hk : k < L.length), sumB (k + 1) L = sumB k L + (L[k]).2.2
  | [], k, hk => by simp at hk
  | (b, i, c) :: l, 0, _ => by simp [sumB]
  | (b, i, c) :: l, k + 1, hk => by
    have := sumB_succ (L := l) (k := k) (by simpa using hk)
    simp only [sumB, List.getElem_cons_succ] at this ⊢
    omega
theorem sumB_bound : ∀ {L : List (Nat × Int × Int)} (k : Nat), (∀ x ∈ L, 0 ≤ x.2.2 ∧ x.2.2 ≤ 65536) → 0 ≤ sumB k L ∧ sumB k L ≤ k * 65536
  | L, 0, _ => by cases L <;> simp [sumB]
  | [], k + 1, _ => by simp [sumB]; omega
  | (b, i, c) :: l, k + 1, h => by
    have h1 := sumB_bound (L := l) k fun x hx => h x (by simp [hx])
    have h2 := h (b, i, c) (by simp)
    simp only [sumB] at h2 ⊢
    omega
theorem abs_take : ∀ {L : List (Nat × Int × Int)} {k : Nat} (acc : Int) (hk : k < L.length), (absL acc (tlOf L)).take (k + 1) = (absL acc (tlOf L)).take k ++ [((L[k]).2.1, acc + sumB (k + 1) L)]
  | [], k, _, hk => by simp at hk
  | (b, i, c) :: l, 0, acc, _ => by simp [tlOf, absL, sumB]
  | (b, i, c) :: l, k + 1, acc, hk => by
    have := abs_take (L := l) (k := k) (acc + c) (by simpa using hk)
    simp only [tlOf, List.map_cons, absL, List.take_succ_cons, List.getElem_cons_succ, List.cons_append] at this ⊢
    rw [this]
    simp only [sumB]
    rw [show acc + c + sumB (k + 1) l = acc + (c + sumB (k + 1) l) by omega]
theorem abs_len (acc : Int) (L : List (Nat × Int × Int)) : (absL acc (tlOf L)).length = L.length := by rw [absL_length, tlOf_length]
/-- The place of a timer that is pointed to. -/
def posT (L : List (Nat × Int × Int)) : Value → Nat
  | .pointer (some a) => idxB a.block L
  | _ => L.length
theorem posT_at {L : List (Nat × Int × Int)} (hn : (L.map (·.1)).Nodup) {k : Nat} (hk : k ≤ L.length) : posT L (.pointer (nextp (L.drop k))) = k := by
  by_cases h : k < L.length
  · rw [nextp_drop h]; exact idxB_at hn h
  · rw [nextp_end (by omega)]; show L.length = k; omega
theorem cell_new_l (W : World) (v : Value) (t : TypeId) : (W.alloc (.cells #[v] t)).cell? ⟨W.heap.size, 0, none⟩ = some v ∧ (W.alloc (.cells #[v] t)).frozen? ⟨W.heap.size, 0, none⟩ = false :=
  ⟨World.cell?_alloc_at _ _ _ _ rfl, World.frozen?_alloc_at _ _ _ _ rfl⟩
theorem cell_alloc_l {W : World} {a : Addr} {v : Value} (o : Obj) (h : W.cell? a = some v) : (W.alloc o).cell? a = some v := cell_kept h (World.grownBy_alloc W o none) (fun r e => by cases e)
theorem frozen_alloc_l {W : World} {a : Addr} {v : Value} (o : Obj) (h : W.cell? a = some v) (hf : W.frozen? a = false) : (W.alloc o).frozen? a = false := (frozen_kept h (World.grownBy_alloc W o none) (fun r e => by cases e)).trans hf
def enc2 (x : Int × Int) : Array Value := #[.int .i64 x.1, .int .i64 x.2]
set_option maxRecDepth 100000 in
set_option maxHeartbeats 1000000 in
theorem dall1_in (m : Nat) (hm : 2 ≤ m) (Bq base qb qo : Nat) (L : List (Nat × Int × Int)) (w0 w : World) (hn : L.length ≤ 64) (hb0 : Below w0.heap.size w0 w) (hl : Boxed w Bq 23 (.pointer (some ⟨qb, qo, none⟩))) (hq : DQ w0 base qb qo L) (hb : ∀ x ∈ L, 0 ≤ x.2.2 ∧ x.2.2 ≤ 65536) :
    SeqStopsK Fence.wide m Try.prog 35 #[.pointer (some ⟨Bq, 0, none⟩)] enc2 (Below w0.heap.size) (fun ys => ys = absL 0 (tlOf L)) (fun pre => pre <+: absL 0 (tlOf L)) L.length w := by
  intro l J Jx W hW hJ hJx hY h0
  refine callsIn_of_wp Try.func35 rfl trivial ?_ rfl
  simp only [Try.ntmps35, List.size_toArray, List.length_cons, List.length_nil, Nat.reduceAdd, Nat.reduceSub, Array.replicate_succ, Array.replicate_zero, List.push_toArray, List.append_toArray, List.nil_append, List.cons_append]
  have h1 : 1 ≤ m := by omega
  have hl' := (hW.cell (cell_lt hl.cell)).trans hl.cell
  have hbW := hb0.trans (hW.mono hb0.size)
  have hf' := (hbW.cell (cell_lt hq.first)).trans hq.first
  obtain ⟨n, hnn⟩ : ∃ n, L.length = n := ⟨_, rfl⟩
  have HN := hid hnn
  have hn64 : n ≤ 64 := by omega
  have HPT := hid (fun k (hk : k ≤ n) => posT_at hq.nd (k := k) (by omega))
  have hst : nextp L = nextp (L.drop 0) := by simp
  rw [hst] at hf'
  rw [hnn] at hY
  clear hnn hst
  gi_wp2
  gi_loopw [3, 4] (fun tk t wr => ∃ k : Nat, k ≤ n ∧ t = .pointer (nextp (L.drop k)) ∧ tk = .int .i64 (sumB k L) ∧ J ((absL 0 (tlOf L)).take k) wr ∧ Below w0.heap.size w0 wr) (fun _ t _ => n - posT L t)
  case atStart => exact ⟨0, Nat.zero_le _, rfl, rfl, h0, hbW⟩
  case round =>
    obtain ⟨k, hk, rfl, rfl, hJs, hnx⟩ := hrel
    by_cases hlt : k < n
    · have hkl : k < L.length := by have := HN.out; omega
      obtain ⟨t0, t1, t2, _⟩ := tO_cell (hq.ch.at_ hkl)
      have HV := hid (HPT.out k hk)
      have HV2 := hid (HPT.out (k + 1) hlt)
      have hc := hb _ (List.getElem_mem hkl)
      have hsb := sumB_bound k hb
      have HSU := hid (sumB_succ hkl)
      have HTK := hid (abs_take 0 hkl)
      rw [nextp_drop hkl] at HV ⊢
      obtain ⟨x, hx⟩ : ∃ x, L[k] = x := ⟨_, rfl⟩
      rw [hx] at t0 t1 t2 hc HSU HTK HV ⊢
      obtain ⟨b, i, c⟩ := x
      dsimp only at t0 t1 t2 hc HSU HTK HV ⊢
      rw [HSU.out, Int.zero_add] at HTK
      obtain ⟨s, hs⟩ : ∃ s, sumB k L = s := ⟨_, rfl⟩
      rw [hs] at hsb HSU HTK ⊢
      have e0 := (hnx.cell (cell_lt t0)).trans t0
      have e1 := (hnx.cell (cell_lt t1)).trans t1
      obtain ⟨nx, hnxp⟩ : ∃ nx, nextp (L.drop (k + 1)) = nx := ⟨_, rfl⟩
      have HNX := hid hnxp
      rw [hnxp] at t2 HV2
      have HP := hid (show (absL 0 (tlOf L)).take (k + 1) <+: absL 0 (tlOf L) from List.take_prefix _ _)
      obtain ⟨fn, tmps, assign, body, hy, hR⟩ := hY _ (i, s + c) wr hJs (by rw [List.length_take, abs_len]; omega)
      dsimp only [enc2] at hy
      have T2 := hid t2
      clear hx hs hnxp t0 t1 t2
      gi_wp2
      refine hR.mono ?_
      rintro e W3 (⟨rfl, hJ3, hk3⟩ | ⟨rfl, hJx3⟩)
      · have hn3 := hnx.trans hk3
        have e2 := (hn3.cell (cell_lt T2.out)).trans T2.out
        gi_wp2
        go_roundw
        case rel => exact ⟨k + 1, by omega, by rw [HNX.out], by rw [HSU.out], by rw [HTK.out]; exact hJ3, hn3⟩
        case measure => rw [HV.out, HV2.out]; omega
      · gi_wp2
        refine bodyPost_ret (results_none rfl _ _ _) rfl ?_
        exact ⟨⟨_, rfl⟩, .inr ⟨_, by rw [← HTK.out]; exact HP.out, hJx3⟩⟩
    · obtain rfl : k = n := by omega
      rw [nextp_end (by have := HN.out; omega)]
      gi_wp2
      go_end0
      exact ⟨⟨_, rfl⟩, .inl ⟨_, rfl, by rw [List.take_of_length_le (by rw [abs_len]; have := HN.out; omega)] at hJs; exact hJs⟩⟩
theorem dall_any (qb qo : Nat) (w : World) : Calls Try.prog 33 #[.pointer (some ⟨qb, qo, none⟩)] w fun e w' => e = .returned (.func (.func 35) #[] #[.pointer (some ⟨w.heap.size, 0, none⟩)]) ∧ w.alloc (.cells #[.pointer (some ⟨qb, qo, none⟩)] 23) = w' := by
  go_enter Try.func33, Try.ntmps33
  go_wp2
  go_ret
  exact ⟨rfl, rfl⟩
def dR2 : Option Int → Int × Bool
  | some t => (t, true)
  | none => (0, false)
theorem look_prefix {id t : Int} {pre l : TL} (hp : pre ++ [(id, t)] <+: l) (hn : ∀ x ∈ pre, x.1 ≠ id) : look id l = some t := by
  obtain ⟨r, rfl⟩ := hp
  unfold look
  rw [List.append_assoc, List.find?_append, List.find?_eq_none.2 (fun x hx => by simpa using hn x hx)]
  simp
set_option maxRecDepth 100000 in
set_option maxHeartbeats 1000000 in
theorem ddue_any (base qb qo : Nat) (L : List (Nat × Int × Int)) (id : Int) (w : World) (hq : DQ w base qb qo L) (hb : ∀ x ∈ L, 0 ≤ x.2.2 ∧ x.2.2 ≤ 65536) (hn : L.length ≤ 64) :
    Calls Try.prog 15 #[.pointer (some ⟨qb, qo, none⟩), .int .i64 id] w fun e w' => e = .returned (.tuple #[.int .i64 (dR2 (dueF id 0 (tlOf L))).1, .bool (dR2 (dueF id 0 (tlOf L))).2]) ∧ Below w.heap.size w w' := by
  have c0 := cell_new_l w (.int .i64 id) 3
  have c1 := cell_new_l (w.alloc (.cells #[.int .i64 id] 3)) (.int .i64 0) 3
  have c2 := cell_new_l ((w.alloc (.cells #[.int .i64 id] 3)).alloc (.cells #[.int .i64 0] 3)) (.bool false) 4
  simp only [World.size_alloc] at c1 c2
  have hB0 : Below w.heap.size w (((w.alloc (.cells #[.int .i64 id] 3)).alloc (.cells #[.int .i64 0] 3)).alloc (.cells #[.bool false] 4)) := (((Below.refl _ w).alloc (Nat.le_refl _) _).alloc (by simp) _).alloc (by simp; omega) _
  obtain ⟨W0, hW0⟩ : ∃ W0, W0 = ((w.alloc (.cells #[.int .i64 id] 3)).alloc (.cells #[.int .i64 0] 3)).alloc (.cells #[.bool false] 4) := ⟨_, rfl⟩
  have hsz : W0.heap.size = w.heap.size + 3 := by rw [hW0]; simp
  have b0 : W0.cell? ⟨w.heap.size, 0, none⟩ = some (.int .i64 id) := by rw [hW0]; exact cell_alloc_l _ (cell_alloc_l _ c0.1)
  have b1 : W0.cell? ⟨w.heap.size + 1, 0, none⟩ = some (.int .i64 0) := by rw [hW0]; exact cell_alloc_l _ c1.1
  have b2 : W0.cell? ⟨w.heap.size + 1 + 1, 0, none⟩ = some (.bool false) := by rw [hW0]; exact c2.1
  have f1 : W0.frozen? ⟨w.heap.size + 1, 0, none⟩ = false := by rw [hW0]; exact frozen_alloc_l _ c1.1 c1.2
  have f2 : W0.frozen? ⟨w.heap.size + 1 + 1, 0, none⟩ = false := by rw [hW0]; exact c2.2
  rw [← hW0] at hB0
  have hbx := Boxed.new W0 23 (.pointer (some ⟨qb, qo, none⟩))
  have hBX : Below W0.heap.size W0 (W0.alloc (.cells #[.pointer (some ⟨qb, qo, none⟩)] 23)) := (Below.refl _ _).alloc (Nat.le_refl _) _
  have hB1 := hB0.trans (hBX.mono hB0.size)
  have HSQ := hid (dall1_in 9 (by omega) W0.heap.size base qb qo L w (W0.alloc (.cells #[.pointer (some ⟨qb, qo, none⟩)] 23)) hn hB1 hbx hq hb)
  have HD := hid (dueF_look id (tlOf L) 0)
  obtain ⟨Y, hY⟩ : ∃ Y, absL 0 (tlOf L) = Y := ⟨_, rfl⟩
  rw [hY] at HSQ HD
  obtain ⟨R, hR⟩ : ∃ R, dueF id 0 (tlOf L) = R := ⟨_, rfl⟩
  rw [hR] at HD ⊢
  obtain ⟨N, hN⟩ : ∃ N, L.length = N := ⟨_, rfl⟩
  rw [hN] at HSQ
  clear hY hR hN hq hb hn c0 c1 c2
  refine (callsIn_wide (n := 10)).1 ?_
  refine callsIn_of_wp_marks Try.func15 rfl trivial ?_ rfl
  simp only [Try.ntmps15, List.size_toArray, List.length_cons, List.length_nil, Nat.reduceAdd, Nat.reduceSub, Array.replicate_succ, Array.replicate_zero, List.push_toArray, List.append_toArray, List.nil_append, List.cons_append]
  gi_wp2
  rw [← hW0]
  refine ⟨trivial, ?_⟩
  refine (callsIn_wide.2 (dall_any qb qo W0)).mono ?_
  rintro e w1 ⟨rfl, rfl⟩
  clear hW0
  have hszh := hid hsz
  clear hsz
  gi_wp2
  refine wpIn_rangeFunc_ownF rfl (by omega) (gf := 35) (lb := #[.pointer (some ⟨W0.heap.size, 0, none⟩)]) rfl trivial (enters_of Try.func35 (by kernel_rfl) rfl) HSQ.out belowK_t (belowK_b (by have := hszh.out; simp; omega)) (Below.refl _ _) (fun _ => rfl)
    (fun pre W => ((∀ x ∈ pre, x.1 ≠ id) ∧ W.cell? ⟨w.heap.size, 0, none⟩ = some (.int .i64 id) ∧ W.cell? ⟨w.heap.size + 1, 0, none⟩ = some (.int .i64 0) ∧ W.frozen? ⟨w.heap.size + 1, 0, none⟩ = false ∧ W.cell? ⟨w.heap.size + 1 + 1, 0, none⟩ = some (.bool false) ∧ W.frozen? ⟨w.heap.size + 1 + 1, 0, none⟩ = false) ∧ Below w.heap.size w W)
    (fun c pre W => (∃ (p : TL) (t : Int), c = .ret ∧ pre = p ++ [(id, t)] ∧ (∀ x ∈ p, x.1 ≠ id) ∧ W.cell? ⟨w.heap.size + 1, 0, none⟩ = some (.int .i64 t) ∧ W.cell? ⟨w.heap.size + 1 + 1, 0, none⟩ = some (.bool true)) ∧ Below w.heap.size w W)
    (OwnFrom.and (Own.from (fun s A B row hs hg hr => ⟨hs.1, cell_kept hs.2.1 hg hr, cell_kept hs.2.2.1 hg hr, (frozen_kept hs.2.2.1 hg hr).trans hs.2.2.2.1, cell_kept hs.2.2.2.2.1 hg hr, (frozen_kept hs.2.2.2.2.1 hg hr).trans hs.2.2.2.2.2⟩) _) (ownFrom_below (Nat.le_refl _) (by have := hszh.out; simp; omega)))
    (fun c => OwnFrom.and (Own.from (fun s A B row hs hg hr => by
      obtain ⟨p, t, h1, h2, h3, h4, h5⟩ := hs
      exact ⟨p, t, h1, h2, h3, cell_kept h4 hg hr, cell_kept h5 hg hr⟩) _) (ownFrom_below (Nat.le_refl _) (by have := hszh.out; simp; omega)))
    ⟨⟨fun x hx => (by cases hx), cell_alloc_l _ b0, cell_alloc_l _ b1, frozen_alloc_l _ b1 f1, cell_alloc_l _ b2, frozen_alloc_l _ b2 f2⟩, hB1⟩
    (fun x => { tmps := #[.pointer (some ⟨qb, qo, none⟩), .int .i64 id, undef, .pointer (some ⟨w.heap.size, 0, none⟩), .pointer (some ⟨w.heap.size + 1, 0, none⟩), .pointer (some ⟨w.heap.size + 1 + 1, 0, none⟩), .int .i64 x.1, .int .i64 x.2, .pointer (some ⟨qb, qo, none⟩), .func (.func 35) #[] #[.pointer (some ⟨W0.heap.size, 0, none⟩)], .int .i64 x.1, .int .i64 x.2, undef, undef, undef, undef], defers := [] }) ?assign ?body ?done ?stop
  case assign =>
    intro l x W K hK
    simp only [enc2]
    gi_wp2
    exact hK
  case body =>
    rintro l pre ⟨i, t⟩ W ⟨⟨h1, h2, h3, h4, h5, h6⟩, hB⟩ _
    have h0 : (1 : Nat) ≤ 10 - 1 - 1 := by omega
    by_cases hi : i = id
    · subst hi
      have ti : (i == i) = true := by simp
      have H1 := hid h1
      clear h1
      gi_wp2
      exact ⟨(KeepsOthers.setCell _ _ _).trans (KeepsOthers.setCell _ _ _), ⟨pre, t, rfl, rfl, H1.out, by simp [go_sem, h3], by simp [go_sem, h5]⟩, (hB.setCell (p := ⟨w.heap.size + 1, 0, none⟩) (by simp) _).setCell (p := ⟨w.heap.size + 1 + 1, 0, none⟩) (by simp; omega) _⟩
    · have ti : (i == id) = false := by simpa using hi
      have H1 : Hid (∀ x ∈ pre ++ [(i, t)], x.1 ≠ id) := fun x hx => by
        rcases List.mem_append.1 hx with h | h
        · exact h1 x h
        · simp only [List.mem_singleton] at h; subst h; exact hi
      clear h1
      gi_wp2
      exact ⟨KeepsOthers.refl _, Below.refl _ _, ⟨H1.out, h2, h3, h4, h5, h6⟩, hB⟩
  case done =>
    rintro D ys W hD rfl ⟨⟨h1, h2, h3, h4, h5, h6⟩, hB⟩ hK
    have hRn : R = none := by rw [HD.out]; exact look_none.2 h1
    have hD2 : w.heap.size ≤ D := by have := hszh.out; simp at hD; omega
    clear h1
    gi_wp2
    have hK' := ((KeepsOthers.setCell W ⟨w.heap.size + 1, 0, none⟩ (.int .i64 0)).trans (KeepsOthers.setCell _ ⟨w.heap.size + 1 + 1, 0, none⟩ (.bool false))).same D _ hK rfl
    refine ⟨by simp, .inl ⟨_, _, rfl, run_takeDeferred hK', ?_⟩⟩
    have e0 : ((W.setCell ⟨w.heap.size + 1, 0, none⟩ (.int .i64 0)).setCell ⟨w.heap.size + 1 + 1, 0, none⟩ (.bool false)).cell? ⟨w.heap.size + 1, 0, none⟩ = some (.int .i64 0) := by simp [go_sem, h3]
    have e1 : ((W.setCell ⟨w.heap.size + 1, 0, none⟩ (.int .i64 0)).setCell ⟨w.heap.size + 1 + 1, 0, none⟩ (.bool false)).cell? ⟨w.heap.size + 1 + 1, 0, none⟩ = some (.bool false) := by simp [go_sem, h5]
    have g0 := cell_kept e0 (grownBy_putObj' _ D (.deferred none)) (fun r e => by cases e; exact ⟨_, hK', rfl⟩)
    have g1 := cell_kept e1 (grownBy_putObj' _ D (.deferred none)) (fun r e => by cases e; exact ⟨_, hK', rfl⟩)
    refine ⟨.tuple #[.int .i64 0, .bool false], ?_, by rw [hRn]; rfl, ((hB.setCell (p := ⟨w.heap.size + 1, 0, none⟩) (by simp) _).setCell (p := ⟨w.heap.size + 1 + 1, 0, none⟩) (by simp; omega) _).trans (belowK_b (w := w) (Nat.le_refl _) _ D _ _ hD2 hK' rfl rfl)⟩
    simp [results, Try.f15, go_sem, g0, g1]
  case stop =>
    rintro D c pre W hD hpre ⟨⟨p, t, rfl, rfl, h1, h2, h3⟩, hB⟩ hK
    have hRs : R = some t := by rw [HD.out]; exact look_prefix hpre h1
    have hD2 : w.heap.size ≤ D := by have := hszh.out; simp at hD; omega
    clear h1
    gi_wp2
    refine ⟨by simp, .inl ⟨_, _, rfl, run_takeDeferred hK, ?_⟩⟩
    have g0 := cell_kept h2 (grownBy_putObj' _ D (.deferred none)) (fun r e => by cases e; exact ⟨_, hK, rfl⟩)
    have g1 := cell_kept h3 (grownBy_putObj' _ D (.deferred none)) (fun r e => by cases e; exact ⟨_, hK, rfl⟩)
    refine ⟨.tuple #[.int .i64 t, .bool true], ?_, by rw [hRs]; rfl, hB.trans (belowK_b (w := w) (Nat.le_refl _) W D _ _ hD2 hK rfl rfl)⟩
    simp [results, Try.f15, go_sem, g0, g1]
end Go.Proofs.Ytdccpbnknfffaaa
