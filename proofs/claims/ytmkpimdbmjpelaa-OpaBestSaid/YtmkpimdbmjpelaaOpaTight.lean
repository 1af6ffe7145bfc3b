/-
  Layer 38: contract of the program's Tight: the places by deadlines, the shortest first.
-/
import Derived.Test.YtmkpimdbmjpelaaOpaRef
import Derived.Test.YtmkpimdbmjpelaaOpaBestLaw3
import Derived.BigRegion
import Derived.BigQuiet
namespace Go.Proofs.Ytmkpimdbmjpelaa
open Go.RowKit
/-! ### plain: a place is put in among those that stand by deadlines -/
def InsAt (g : Nat → Nat → Int) (i k : Nat) (M : List Nat) : Prop := ∃ A B, M = A ++ i :: B ∧ A.length = k ∧ SortD g (A ++ B) ∧ (∀ b ∈ B, g i 1 ≤ g b 1) ∧ (A ++ B).Perm (List.range i)
theorem InsAt.start {g : Nat → Nat → Int} {i : Nat} {Q : List Nat} (hS : SortD g Q) (hp : Q.Perm (List.range i)) : InsAt g i i (Q ++ [i]) :=
  ⟨Q, [], rfl, by rw [hp.length_eq, List.length_range], by rw [List.append_nil]; exact hS, fun b hb => (by cases hb), by rw [List.append_nil]; exact hp⟩
theorem InsAt.length {g : Nat → Nat → Int} {i k : Nat} {M : List Nat} (h : InsAt g i k M) : M.length = i + 1 := by
  obtain ⟨A, B, rfl, _, _, _, h5⟩ := h
  have := h5.length_eq
  simp only [List.length_append, List.length_range, List.length_cons] at this ⊢
  omega
theorem InsAt.at_ {g : Nat → Nat → Int} {i k : Nat} {M : List Nat} (h : InsAt g i k M) : M.getD k 0 = i := by
  obtain ⟨A, B, rfl, h2, _, _, _⟩ := h
  rw [List.getD_eq_getElem?_getD, List.getElem?_append_right (by omega), h2, Nat.sub_self]; rfl
theorem InsAt.done {g : Nat → Nat → Int} {i k : Nat} {M : List Nat} (h : InsAt g i k M) (hd : k = 0 ∨ ∃ k', k = k' + 1 ∧ g (M.getD k' 0) 1 ≤ g i 1) : SortD g M ∧ M.Perm (List.range (i + 1)) := by
  obtain ⟨A, B, rfl, h2, h3, h4, h5⟩ := h
  obtain ⟨s1, s2, s3⟩ := List.pairwise_append.1 h3
  refine ⟨?_, ?_⟩
  · refine List.pairwise_append.2 ⟨s1, List.pairwise_cons.2 ⟨h4, s2⟩, fun a ha b hb => ?_⟩
    rcases List.mem_cons.1 hb with rfl | hb
    · rcases hd with rfl | ⟨k', rfl, hd⟩
      · obtain rfl : A = [] := List.eq_nil_of_length_eq_zero h2
        cases ha
      · obtain ⟨A', z, rfl⟩ : ∃ P a, A = P ++ [a] := ⟨A.dropLast, A.getLast (by intro e; rw [e] at h2; simp at h2), (List.dropLast_concat_getLast _).symm⟩
        have hk : A'.length = k' := by simpa using h2
        have hz : ((A' ++ [z]) ++ b :: B).getD k' 0 = z := by
          rw [List.getD_eq_getElem?_getD, List.append_assoc, List.getElem?_append_right (by omega), hk, Nat.sub_self]; rfl
        rw [hz] at hd
        rcases List.mem_append.1 ha with h | h
        · have := (List.pairwise_append.1 s1).2.2 a h z (by simp)
          omega
        · obtain rfl : a = z := by simpa using h
          exact hd
    · exact s3 a ha b hb
  · rw [List.range_succ]
    exact List.perm_middle.trans (((h5.cons i)).trans (List.perm_append_comm (l₁ := [i]) (l₂ := List.range i)))
theorem InsAt.less {g : Nat → Nat → Int} {i k : Nat} {M : List Nat} (h : InsAt g i (k + 1) M) : M.getD k 0 < i := by
  obtain ⟨A, B, rfl, h2, _, _, h5⟩ := h
  have : ((A ++ i :: B).getD k 0) ∈ A ++ B := by
    rw [List.getD_eq_getElem?_getD, List.getElem?_append_left (by omega), List.getElem?_eq_getElem (by omega)]
    exact List.mem_append_left _ (List.getElem_mem _)
  exact List.mem_range.1 (h5.subset this)
theorem ints_set (M : List Nat) (k j : Nat) : (ints M).set k (.int .i64 (j : Int)) = ints (M.set k j) := by
  simp [ints, List.map_set]
theorem InsAt.swap {g : Nat → Nat → Int} {i k : Nat} {M : List Nat} (h : InsAt g i (k + 1) M) (hd : g i 1 < g (M.getD k 0) 1) : InsAt g i k ((M.set (k + 1) (M.getD k 0)).set k i) ∧ (M.set k i).set (k + 1) (M.getD k 0) = (M.set (k + 1) (M.getD k 0)).set k i := by
  refine ⟨?_, List.set_comm _ _ (by omega)⟩
  obtain ⟨A, B, rfl, h2, h3, h4, h5⟩ := h
  obtain ⟨A', z, rfl⟩ : ∃ P a, A = P ++ [a] := ⟨A.dropLast, A.getLast (by intro e; rw [e] at h2; simp at h2), (List.dropLast_concat_getLast _).symm⟩
  have hk : A'.length = k := by simpa using h2
  have hz : ((A' ++ [z]) ++ i :: B).getD k 0 = z := by
    rw [List.getD_eq_getElem?_getD, List.append_assoc, List.getElem?_append_right (by omega), hk, Nat.sub_self]; rfl
  rw [hz] at hd ⊢
  refine ⟨A', z :: B, ?_, hk, by simpa using h3, fun b hb => ?_, by simpa using h5⟩
  · rw [List.append_assoc, List.set_append_right _ _ (by omega), List.set_append_right _ _ (by omega), hk]
    simp
  · rcases List.mem_cons.1 hb with rfl | hb
    · omega
    · exact h4 b hb
set_option maxRecDepth 100000 in
set_option maxHeartbeats 2000000 in
theorem opaTight_any (ao : Option Addr) (n ca : Nat) (g : Nat → Nat → Int) (w : World) (hn : n ≤ 10) (hT : Tasks w ao n g) :
    Calls Try.prog 10 #[.slice ao n ca] w fun e w' => ∃ v Q, e = .returned v ∧ Q.Perm (List.range n) ∧ SortD g Q ∧ w'.ownsRow w.heap.size 3 1 v n (ints Q) ∧ Below w.heap.size w w' := by
  obtain ⟨i0, hi, hz0, hz1, hz2⟩ := info_parts infoIt
  have HT := hid hT
  have HS0 : Hid (SortD g []) := List.Pairwise.nil
  have HP0 : Hid (([] : List Nat).Perm (List.range 0)) := List.Perm.refl _
  clear hT
  go_enter Try.func10, Try.ntmps10
  go_wp2
  go_loopw [3, 8] (fun v i wr => ∃ (k : Nat) (Q : List Nat), k ≤ n ∧ i = .int .i64 k ∧ Hid (Q.Perm (List.range k)) ∧ Hid (SortD g Q) ∧ Hid (wr.ownsRow w.heap.size 3 1 v k (ints Q)) ∧ Hid (Below w.heap.size w wr)) (fun _ i _ => n - (intOf i).toNat)
  case atStart => exact ⟨0, [], by omega, rfl, HP0, HS0, World.ownsRow_nil _ _ _ _, Below.refl _ _⟩
  case round =>
    clear HP0 HS0
    obtain ⟨k, Q, hk, rfl, HPQ, HSQ, HO, HB⟩ := hrel
    by_cases hlt : k < n
    · have t0 : decide ((k : Int) < (n : Int)) = true := by simp; omega
      have hsz := HB.out.size
      go_wp2_with (at_builtin; refine wpList_append_own _ rfl _ _ 24 rfl w.heap.size 3 i0 (.int .i64 0) 1 8 Try.underlying24 hi hz0 hz1 hz2 rfl (by decide) u3 k _ rfl (HO.out.alloc _) ⟨wr.heap.size, 0, none⟩ 1 1 [.int .i64 (k : Int)] rfl rfl (one_int _ _ _) (by simp [Value.oneCell']) (by unfold maxLen; omega) (by omega) (by simp; omega) ?_; intro v' w1 hown1 hgrow _; have HO1 := hid (show w1.ownsRow w.heap.size 3 1 v' (k + 1) (ints (Q ++ [k])) by rw [ints_append]; exact hown1); obtain ⟨b, cap, rfl, hc1, hc2, _⟩ := own_slice HO1.out (by omega); have HB1 := hid ((HB.out.alloc hsz _).grown hgrow (by simp; omega) fun j hj => (HO.out.lt j hj).1); clear hown1 hgrow)
      have HI0 := hid (InsAt.start HSQ.out HPQ.out)
      clear HO HPQ HSQ
      go_loopw [5] (fun k_ wq => ∃ (j : Nat) (M : List Nat), k_ = .int .i64 j ∧ j ≤ k ∧ Hid (InsAt g k j M) ∧ Hid (wq.ownsRow w.heap.size 3 1 (.slice (some ⟨b, 0, none⟩) (k + 1) cap) (k + 1) (ints M)) ∧ Hid (Below w.heap.size w wq)) (fun k_ _ => (intOf k_).toNat)
      case atStart => exact ⟨k, _, by go_num, Nat.le_refl _, HI0, HO1, HB1⟩
      case round =>
        clear HO1 HB1 HI0
        obtain ⟨j, M, rfl, hjk, HI, HO, HB⟩ := hrel
        have HL := hid HI.out.length
        by_cases hj0 : j = 0
        · subst hj0
          have HD := hid (HI.out.done (.inl rfl))
          go_wp2
          go_quiet (fail)
          go_wp2
          go_roundw
          case rel => exact ⟨k + 1, M, by omega, by go_num, HD.out.2, HD.out.1, HO, HB.out.trans ⟨rfl, rfl, rfl, Nat.le_refl _, fun _ _ => rfl⟩⟩
          case measure => simp [intOf]; omega
        · obtain ⟨j', rfl⟩ : ∃ j', j = j' + 1 := ⟨j - 1, by omega⟩
          have HM := hid HI.out.at_
          have hless := HI.out.less
          have cM1 : wr.cell? ⟨b, j' + 1, none⟩ = some (.int .i64 (k : Int)) := by
            rw [HO.out.cellAt (j' + 1) (by omega), ints_at (by rw [HL.out]; omega), HM.out]
          have cM0 : wr.cell? ⟨b, j', none⟩ = some (.int .i64 ((M.getD j' 0 : Nat) : Int)) := by
            rw [HO.out.cellAt j' (by omega), ints_at (by rw [HL.out]; omega)]
          have hSW := fun h => HI.out.swap (g := g) h
          have hDN := fun h => HI.out.done (.inr ⟨j', rfl, h⟩)
          obtain ⟨p, hp⟩ : ∃ p, M.getD j' 0 = p := ⟨_, rfl⟩
          rw [hp] at hless cM0 hSW hDN
          obtain ⟨tb, to, rfl, _⟩ := HT.out.form hlt
          obtain ⟨⟨_, d1, _, _⟩, _⟩ := (HT.out.below HB.out).at_ hlt
          obtain ⟨⟨_, e1, _, _⟩, _⟩ := (HT.out.below HB.out).at_ (show p < n by omega)
          have i0' : (0 : Int) ≤ (j' : Int) := by omega
          have i1 : (j' : Int) < (k : Int) + 1 := by omega
          have i2 : (0 : Int) ≤ (p : Int) := by omega
          have i3 : (p : Int) < (n : Int) := by omega
          have i4 : (j' : Int) + 1 < (k : Int) + 1 := by omega
          have i5 : (k : Int) < (n : Int) := by omega
          by_cases hd : g k 1 < g p 1
          · have t3 : decide (g k 1 < g p 1) = true := by simp; omega
            have HSW := hid (hSW hd)
            clear hSW hDN hp
            go_wp2
            go_quiet (fail)
            go_wp2
            obtain ⟨W9, hW9⟩ : ∃ W, wr.drewN nq = W := ⟨_, rfl⟩
            have HB9 := hid (show Below w.heap.size w W9 by rw [← hW9]; exact HB.out.trans ⟨rfl, rfl, rfl, Nat.le_refl _, fun _ _ => rfl⟩)
            have HO9 := hid (show W9.ownsRow w.heap.size 3 1 (.slice (some ⟨b, 0, none⟩) (k + 1) cap) (k + 1) (ints M) by rw [← hW9]; exact HO.out)
            have cN1 : W9.cell? ⟨b, j' + 1, none⟩ = some (.int .i64 (k : Int)) := by rw [← hW9]; exact cM1
            have cN0 : W9.cell? ⟨b, j', none⟩ = some (.int .i64 (p : Int)) := by rw [← hW9]; exact cM0
            have fN1 := HO9.out.frozenAt (j' + 1)
            have fN0 := HO9.out.frozenAt j'
            rw [hW9]
            clear hW9 cM1 cM0 d1 e1 HB HO
            have hst1 := HO9.out.stored (j' + 1) (.int .i64 (p : Int))
            have hst2 := hst1.1.stored j' (.int .i64 (k : Int))
            rw [ints_set, ints_set] at hst2
            have HOW := hid hst2.1
            have HBW := hid ((HB9.out.grown hst1.2 HB9.out.size fun j hj => (HO9.out.lt j hj).1).grown hst2.2 (by simp; exact HB9.out.size) fun j hj => (hst1.1.lt j hj).1)
            clear hst1 hst2
            go_region
            go_wp2
            go_roundw
            case rel => exact ⟨j', _, by go_num, by omega, HSW.out.1, HOW.out, HBW.out.trans ⟨rfl, rfl, rfl, Nat.le_refl _, fun _ _ => rfl⟩⟩
            case measure => simp [intOf]
          · have t3 : decide (g k 1 < g p 1) = false := by simp; omega
            have HDN := hid (hDN (by omega))
            clear hSW hDN hp
            go_wp2
            go_quiet (fail)
            go_wp2
            go_roundw
            case rel => exact ⟨k + 1, M, by omega, by go_num, HDN.out.2, HDN.out.1, HO, HB.out.trans ⟨rfl, rfl, rfl, Nat.le_refl _, fun _ _ => rfl⟩⟩
            case measure => simp [intOf]; omega
    · obtain rfl : k = n := by omega
      have t0 : decide ((k : Int) < (k : Int)) = false := by simp
      go_wp2
      go_ret
      exact ⟨_, Q, rfl, HPQ.out, HSQ.out, HO.out, HB.out⟩
end Go.Proofs.Ytmkpimdbmjpelaa
