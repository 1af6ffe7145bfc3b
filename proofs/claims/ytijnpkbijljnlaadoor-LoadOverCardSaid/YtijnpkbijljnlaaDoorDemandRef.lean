/-
  Contracts of the document's layer 16, and of the law's list of terms.
-/
import Derived.Test.YtijnpkbijljnlaaDoorCheckRef
import Derived.Test.YtijnpkbijljnlaaDoorDemandSum
import Derived.Test.YtijnpkbijljnlaaDoorRow
import Derived.Test.YtijnpkbijljnlaaDoorStage
namespace Go.Proofs.YtijnpkbijljnlaaDoor
open Go.RowKit
theorem rwork_any (p c o k t : Int) (w : World) : Calls Tryd.prog 51 #[.agg #[.int .i64 p, .int .i64 c, .int .i64 o, .int .i64 k], .int .i64 t] w fun e w' => e = .returned (rv (workR p c o k t)) ∧ Below w.heap.size w w' := by
  have HL := hid (lessRef_any t o)
  unfold workR jobsR
  obtain ⟨⟨n, ok⟩, hx⟩ : ∃ x, lessR t o = x := ⟨_, rfl⟩
  rw [hx] at HL ⊢
  cases ok
  · go_enter Tryd.func51, Tryd.ntmps51
    go_wp2_with (go_at_call 53; refine (HL.out _).mono ?_; rintro e w1 ⟨rfl, rfl⟩)
    go_ret2
    exact ⟨rfl, (Below.refl _ _).alloc (Nat.le_refl _) _⟩
  · have HU := hid (upRef_any n p)
    simp only [if_true]
    obtain ⟨⟨m, is⟩, hy⟩ : ∃ x, upR n p = x := ⟨_, rfl⟩
    rw [hy] at HU ⊢
    cases is
    · go_enter Tryd.func51, Tryd.ntmps51
      go_wp2_with (first | (go_at_call 53; refine (HL.out _).mono ?_; rintro e w1 ⟨rfl, rfl⟩) | (go_at_call 54; refine (HU.out _).mono ?_; rintro e w1 ⟨rfl, rfl⟩))
      go_ret2
      exact ⟨rfl, (Below.refl _ _).alloc (Nat.le_refl _) _⟩
    · have HM := hid (mulRef_any m c)
      simp only [if_true]
      obtain ⟨⟨a, fits⟩, hz⟩ : ∃ x, mulR m c = x := ⟨_, rfl⟩
      rw [hz] at HM ⊢
      cases fits
      · go_enter Tryd.func51, Tryd.ntmps51
        go_wp2_with (first | (go_at_call 53; refine (HL.out _).mono ?_; rintro e w1 ⟨rfl, rfl⟩) | (go_at_call 54; refine (HU.out _).mono ?_; rintro e w1 ⟨rfl, rfl⟩) | (go_at_call 21; refine (HM.out _).mono ?_; rintro e w1 ⟨rfl, rfl⟩))
        go_ret2
        exact ⟨rfl, (Below.refl _ _).alloc (Nat.le_refl _) _⟩
      · have HA := hid (addRef_any a k)
        simp only [if_true]
        obtain ⟨⟨b, is⟩, hu⟩ : ∃ x, addR a k = x := ⟨_, rfl⟩
        rw [hu] at HA ⊢
        go_enter Tryd.func51, Tryd.ntmps51
        go_wp2_with (first | (go_at_call 53; refine (HL.out _).mono ?_; rintro e w1 ⟨rfl, rfl⟩) | (go_at_call 54; refine (HU.out _).mono ?_; rintro e w1 ⟨rfl, rfl⟩) | (go_at_call 21; refine (HM.out _).mono ?_; rintro e w1 ⟨rfl, rfl⟩) | (go_at_call 49; refine (HA.out _).mono ?_; rintro e w1 ⟨rfl, rfl⟩))
        go_ret2
        exact ⟨rfl, (Below.refl _ _).alloc (Nat.le_refl _) _⟩
/-- The sum so far of the document. -/
theorem rSum_take (l : List Int) : ∀ k, k ≤ l.length → ∀ a, sumF 0 (l.take k) = some a → k < l.length → sumF 0 (l.take (k + 1)) = if (addR a (l.getD k 0)).2 then some (addR a (l.getD k 0)).1 else none := fun k _ a h hk => by
  rw [List.take_add_one, List.getElem?_eq_getElem hk, sumF_append, h]
  simp only [Option.toList_some, Option.bind_some, sumF, List.getD_eq_getElem?_getD, List.getElem?_eq_getElem hk, Option.getD_some]
set_option maxHeartbeats 1000000 in
theorem refSum_any (ao : Option Addr) (n cap : Nat) (l : List Int) (w : World) (hl : l.length = n) (hn : n ≤ 1000) (hr : Row w ao n (fun i => .int .i64 (l.getD i 0))) :
    Calls Tryd.prog 52 #[.slice ao n cap] w fun e w' => e = .returned (rv (rSum l)) ∧ w = w' := by
  go_enter Tryd.func52, Tryd.ntmps52
  go_wp2
  go_loop [4, 5, 6, 7] (fun a i _ _ => ∃ k : Nat, ∃ s : Int, k ≤ n ∧ i = .int .i64 k ∧ a = .int .i64 s ∧ Hid (sumF 0 (l.take k) = some s)) (fun _ i _ _ => n - (intOf i).toNat)
  case atStart => exact ⟨0, 0, by omega, rfl, rfl, rfl⟩
  case round =>
    obtain ⟨k, s, hk, rfl, rfl, hs⟩ := hrel
    by_cases hlt : k < n
    · obtain ⟨b, o, rfl, hc0⟩ := hr k hlt
      have hc : w.cell? ⟨b, o + k, none⟩ = some (.int .i64 (l.getD k 0)) := hc0
      have hbl := hr.lt hlt rfl
      clear hc0
      have HT := hid (rSum_take l k (by omega) s hs.out (by omega))
      have HN : Hid (sumF 0 (l.take (k + 1)) = none → sumF 0 l = none) := fun h => sumF_prefix (List.take_prefix _ _) h
      have HA := hid (addRef_any s (l.getD k 0))
      generalize l.getD k 0 = x at hc HT HA
      obtain ⟨⟨a, ok⟩, hx⟩ : ∃ y, addR s x = y := ⟨_, rfl⟩
      rw [hx] at HA HT
      cases ok
      · go_wp2_with (go_at_call 49; refine (HA.out _).mono ?_; rintro e w1 ⟨rfl, rfl⟩)
        go_ret2
        have hn0 := HN.out (by rw [HT.out]; simp)
        exact ⟨by unfold rSum; rw [hn0]; rfl, rfl⟩
      · go_wp2_with (go_at_call 49; refine (HA.out _).mono ?_; rintro e w1 ⟨rfl, rfl⟩)
        go_round
        case rel => exact ⟨k + 1, a, by omega, by go_num, rfl, hid (by rw [HT.out]; simp)⟩
        case measure => simp [intOf]; omega
    · obtain rfl : k = n := by omega
      have hs' : Hid (sumF 0 l = some s) := by have := hs.out; rwa [← hl, List.take_length] at this
      go_wp2
      go_ret2
      exact ⟨by unfold rSum; rw [hs'.out]; rfl, rfl⟩
/-- The cells of terms, one behind the other. -/
def cellsT (f : Nat → TT) (k : Nat) : List Value := (List.range k).flatMap fun i => [.int .i64 (f i).p, .int .i64 (f i).c, .int .i64 (f i).o, .int .i64 (f i).k]
theorem cellsT_succ (f : Nat → TT) (k : Nat) : cellsT f (k + 1) = cellsT f k ++ [.int .i64 (f k).p, .int .i64 (f k).c, .int .i64 (f k).o, .int .i64 (f k).k] := by
  unfold cellsT
  rw [List.range_succ, List.flatMap_append]; rfl
theorem cellsT_length (f : Nat → TT) (k : Nat) : (cellsT f k).length = k * 4 := by
  induction k with
  | zero => rfl
  | succ k ih => rw [cellsT_succ, List.length_append, ih]; simp; omega
theorem cellsT_at (f : Nat → TT) {i k j : Nat} (h : i < k) (hj : j < 4) : (cellsT f k)[i * 4 + j]? = [Value.int .i64 (f i).p, .int .i64 (f i).c, .int .i64 (f i).o, .int .i64 (f i).k][j]? := by
  induction k with
  | zero => omega
  | succ k ih =>
    rw [cellsT_succ]
    by_cases hk : i = k
    · subst hk
      rw [List.getElem?_append_right (by rw [cellsT_length]; omega), cellsT_length, show i * 4 + j - i * 4 = j by omega]
    · rw [List.getElem?_append_left (by rw [cellsT_length]; omega)]
      exact ih (by omega)
theorem terms_of_own {w : World} {base : Nat} {e : TypeId} {v : Value} {n : Nat} {f : Nat → TT} (h : w.ownsRow base e 4 v n (cellsT f n)) : ∃ ao cap, v = .slice ao n cap ∧ Terms w ao n f := by
  rcases h.2 with ⟨rfl, h2⟩ | ⟨g, cap, cur, rfl, _⟩
  · have : n = 0 := h2
    subst this
    exact ⟨none, 0, rfl, fun i hi => by omega⟩
  · refine ⟨_, cap, rfl, fun i hi => ⟨g, 0, rfl, ?_⟩⟩
    have hc := fun j (hj : j < 4) => (h.cellAt (i * 4 + j) (by omega)).trans (cellsT_at f hi hj)
    rw [Nat.zero_add]
    exact ⟨hc 0 (by omega), hc 1 (by omega), hc 2 (by omega), hc 3 (by omega)⟩
theorem infoT : (Tryd.prog.info? 89).map (fun i => (i.zero, i.size, i.bytes)) = some (some (.agg #[.int .i64 0, .int .i64 0, .int .i64 0, .int .i64 0]), 4, 32) := by kernel_rfl
section
attribute [local go_sem] Oper.quietS Oper.effS effUpon Drawn
end
theorem all_fails {t : Int} {f : Nat → TT} {k n : Nat} (h : k < n) (hk : (workR (f k).p (f k).c (f k).o (f k).k t).2 = false) : rSum (upto t f n) = (0, false) := by
  have h1 : sumF 0 (upto t f (k + 1)) = none := by
    rw [upto_succ, sumF_append]
    cases sumF 0 (upto t f k) with
    | none => rfl
    | some a =>
      have h2 : wkOf t (f k) = -1 := by unfold wkOf; rw [hk]; rfl
      have h3 : addR a (-1) = (0, false) := by
        unfold addR
        rw [show inB (-1) = false by decide]; simp
      simp only [Option.bind_some, sumF, h2, h3]
      rfl
  unfold rSum
  rw [sumF_prefix (upto_prefix t f (show k + 1 ≤ n by omega)) h1]
theorem infoI : (Tryd.prog.info? 3).map (fun i => (i.zero, i.size, i.bytes)) = some (some (.int .i64 0), 1, 8) := by kernel_rfl
theorem ownBlock_any (v : Value) : v.ownBlock = none ∨ v.ownBlock ≠ none := by cases v.ownBlock <;> simp
theorem upto_map_length (t : Int) (f : Nat → TT) (k : Nat) : ((upto t f k).map (Value.int .i64)).length = k := by rw [List.length_map, upto_length]
/-- The document's sum of a row of the call's own. -/
theorem refSum_own (w : World) (v : Value) (base n : Nat) (l : List Int) (hl : l.length = n) (hn : n ≤ 1000) (ho : w.ownsRow base 3 1 v n (l.map (Value.int .i64))) :
    Calls Tryd.prog 52 #[v] w fun e w' => e = .returned (rv (rSum l)) ∧ w = w' := by
  have hv : ∃ ao cap, v = .slice ao n cap := by
    rcases ho.2 with ⟨rfl, h⟩ | ⟨g, cap, cur, rfl, _⟩
    · exact ⟨none, 0, by rw [h]⟩
    · exact ⟨_, cap, rfl⟩
  obtain ⟨ao, cap, rfl⟩ := hv
  have hr := row_of_own ho
  exact refSum_any ao n cap l w hl hn (hr.congr fun i hi => by simp [List.getD, hl, hi])
set_option maxHeartbeats 1000000 in
theorem rall_any (ao : Option Addr) (n cap : Nat) (f : Nat → TT) (t : Int) (w : World) (hT : Terms w ao n f) (hn : n ≤ 100) :
    Calls Tryd.prog 48 #[.slice ao n cap, .int .i64 t] w fun e w' => e = .returned (rv (allR t f n)) ∧ Below w.heap.size w w' := by
  obtain ⟨i0, hi, hz0, hz1, hz2⟩ := info_parts infoI
  go_enter Tryd.func48, Tryd.ntmps48
  go_wp2
  go_loopw [6, 7, 8, 9] (fun v i _ _ wr => ∃ k : Nat, k ≤ n ∧ i = .int .i64 k ∧ wr.ownsRow w.heap.size 3 1 v k ((upto t f k).map (Value.int .i64)) ∧ Below w.heap.size w wr) (fun _ i _ _ _ => n - (intOf i).toNat)
  case atStart => exact ⟨0, by omega, rfl, World.ownsRow_nil w w.heap.size 3 1, Below.refl _ _⟩
  case round =>
    obtain ⟨k, hk, rfl, hown, hbr⟩ := hrel
    by_cases hlt : k < n
    · obtain ⟨b, o, rfl, c0, c1, c2, c3⟩ := hT.below hbr k hlt
      have hbl : b < w.heap.size := by
        obtain ⟨b', o', e, x, _⟩ := hT k hlt
        cases e
        exact cell_lt x
      have HF : Hid ((workR (f k).p (f k).c (f k).o (f k).k t).2 = false → rSum (upto t f n) = (0, false)) := all_fails hlt
      have HS := hid (upto_succ t f k)
      have hwk := hid (show wkOf t (f k) = if (workR (f k).p (f k).c (f k).o (f k).k t).2 then (workR (f k).p (f k).c (f k).o (f k).k t).1 else -1 from rfl)
      have HW := hid (rwork_any (f k).p (f k).c (f k).o (f k).k t)
      obtain ⟨⟨z, ok⟩, hx⟩ : ∃ y, workR (f k).p (f k).c (f k).o (f k).k t = y := ⟨_, rfl⟩
      rw [hx] at HW HF hwk
      cases ok
      · have HF2 : Hid (rSum (upto t f n) = (0, false)) := HF.out rfl
        clear HF
        go_wp2_with (go_at_call 51; refine (HW.out _).mono ?_; rintro e w1 ⟨rfl, hb1⟩)
        go_ret2
        exact ⟨by unfold allR; rw [HF2.out]; rfl, hbr.trans (hb1.mono hbr.size)⟩
      · go_wp2_with (first | (go_at_call 51; refine (HW.out _).mono ?_; rintro e w1 ⟨rfl, hb1⟩; have hown1 := (hown.kept (below_grownBy hb1) (ownBlock_any _)).alloc (Obj.cells #[Value.int .i64 z] 3); have hbw := (hbr.trans (hb1.mono hbr.size)).alloc (Nat.le_trans hbr.size hb1.size) (Obj.cells #[Value.int .i64 z] 3); have hnews : ∀ (j : Nat) (u : Value), [Value.int .i64 z][j]? = some u → (w1.alloc (Obj.cells #[Value.int .i64 z] 3)).cell? ((⟨w1.heap.size, 0, none⟩ : Addr).add j) = some u := (fun j u hj => by rw [add_off, Nat.zero_add, World.cell?_alloc_at _ _ _ _ rfl]; simpa using hj); have hsz := hid hbw.size) | (at_builtin; refine wpList_append_own _ rfl _ _ 90 rfl w.heap.size 3 i0 (.int .i64 0) 1 8 Tryd.underlying90 hi hz0 hz1 hz2 rfl (by decide) _ _ _ rfl hown1 ⟨w1.heap.size, 0, none⟩ 1 1 [Value.int .i64 z] rfl (by simp) hnews (by simp [Value.oneCell']) (by unfold maxLen; omega) (by omega) hsz.out ?_; intro v' w2 hown2 hgrow _))
        go_roundw
        case rel => exact ⟨k + 1, by omega, by go_num, by rw [HS.out, List.map_append, hwk.out]; exact hown2, hbw.grown hgrow hsz.out fun j hj => (hown1.lt j hj).1⟩
        case measure => simp [intOf]; omega
    · obtain rfl : k = n := by omega
      have HR := hid (refSum_own wr _ _ k (upto t f k) (upto_length t f k) (by omega) hown)
      have HE : Hid (allR t f k = rSum (upto t f k)) := rfl
      generalize rSum (upto t f k) = r at HR HE
      obtain ⟨r1, r2⟩ := r
      go_wp2_with (go_at_call 52; refine HR.out.mono ?_; rintro e w1 ⟨rfl, rfl⟩)
      go_ret2
      exact ⟨by rw [HE.out]; rfl, hbr⟩
end Go.Proofs.YtijnpkbijljnlaaDoor
