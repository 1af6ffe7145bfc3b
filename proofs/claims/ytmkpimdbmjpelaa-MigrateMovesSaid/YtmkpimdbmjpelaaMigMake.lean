/-
  Layer 29: contract of Make: the empty queues of a mode.
-/
import Derived.Test.YtmkpimdbmjpelaaMigKit
namespace Go.Proofs.Ytmkpimdbmjpelaa
open Go.RowKit
/-- Queues as they are made. -/
def fresh (g : Nat → Nat → Int) (i : Nat) : QSt := ⟨(g i 0).toNat, g i 1, .slice none 0 0, [], 0⟩
def MakePost (g : Nat → Nat → Int) (n : Nat) (w : World) (e : Ending) (w' : World) : Prop :=
  ∃ P v, e = .returned (.tuple #[v, .int .i64 0]) ∧ w'.ownsRow w.heap.size 39 1 v n (ptrs P n) ∧ Qs w' w.heap.size n P (fresh g) ∧ Below w.heap.size w w'
theorem QAt.base {W : World} {b b' p : Nat} {cap pol d : Int} {v : Value} {xs : List Int} (h : QAt W b p cap pol v xs d) (hb : b' ≤ b) : QAt W b' p cap pol v xs d := ⟨h.blk, own_base h.row hb, Nat.le_trans hb h.low⟩
theorem one_val (W : World) (u : Value) (t : TypeId) : ∀ (j : Nat) (x : Value), [u][j]? = some x → (W.alloc (Obj.cells #[u] t)).cell? ((⟨W.heap.size, 0, none⟩ : Addr).add j) = some x := fun j x hj => by
  rw [add_off, Nat.zero_add, World.cell?_alloc_at _ _ _ _ rfl]; simpa using hj
set_option maxRecDepth 100000 in
set_option maxHeartbeats 1000000 in
theorem make_good (ao : Option Addr) (n ca : Nat) (g : Nat → Nat → Int) (w : World) (hT : Sets w ao n g) (hR : RightS n g) :
    Calls Try.prog 14 #[.slice ao n ca] w fun e w' => MakePost g n w e w' := by
  obtain ⟨i0, hi, hz0, hz1, hz2⟩ := info_parts infoQp
  obtain ⟨hn, hR⟩ := hR
  have HT := hid hT
  have HR := hid hR
  have t9 : decide ((4 : Int) < (n : Int)) = false := by simp; omega
  have HQ0 : Hid (Qs w w.heap.size 0 (fun _ => 0) (fresh g)) := ⟨fun i hi => by omega, fun i j hi => by omega, fun i j hi => by omega⟩
  clear hT hR
  go_enter Try.func14, Try.ntmps14
  go_wp2
  go_loopw [4, 7, 8, 14] (fun v _ _ i wr => ∃ (k : Nat) (P : Nat → Nat), k ≤ n ∧ i = .int .i64 k ∧ Hid (wr.ownsRow w.heap.size 39 1 v k (ptrs P k)) ∧ Hid (Qs wr w.heap.size k P (fresh g)) ∧ Hid (Below w.heap.size w wr)) (fun _ _ _ i _ => n - (intOf i).toNat)
  case atStart => exact ⟨0, fun _ => 0, by omega, rfl, World.ownsRow_nil _ _ _ _, HQ0, Below.refl _ _⟩
  case round =>
    clear HQ0
    obtain ⟨k, P, hk, rfl, HO, HQ, HB⟩ := hrel
    by_cases hlt : k < n
    · have t0 : decide ((k : Int) < (n : Int)) = true := by simp; omega
      obtain ⟨b, o, rfl, c0, c1⟩ := (HT.out.below HB.out) k hlt
      have HRk := HR.out k hlt
      have hcap := (rightB_is.1 HRk).1
      have HF : Hid (((fresh g k).cap : Int) = g k 0) := by
        show (((g k 0).toNat : Nat) : Int) = g k 0
        omega
      have i0' : (0 : Int) ≤ (k : Int) := by omega
      have i1 : (k : Int) < (n : Int) := by omega
      have BA := HB.out.alloc HB.out.size (Obj.cells #[.int .i64 (g k 0), .int .i64 (g k 1)] 43)
      have HOA := HO.out.alloc (Obj.cells #[.int .i64 (g k 0), .int .i64 (g k 1)] 43)
      have HQA := HQ.out.below (((Below.refl wr.heap.size wr).alloc (Nat.le_refl _) (Obj.cells #[.int .i64 (g k 0), .int .i64 (g k 1)] 43)))
      have HBA := hid BA
      have HOA' := hid HOA
      have HQA' := hid HQA
      clear BA HOA HQA
      go_wp2_with fail
      refine (new_good (g k 0) (g k 1) _ HRk).mono ?_
      rintro e w2 ⟨p, rfl, q2, b2⟩
      have HB2 := hid (HBA.out.trans (b2.mono HBA.out.size))
      have HO2 := hid (own_save HOA'.out (Save.of_below b2 fun _ => False) fun _ _ => id)
      have HQ2 := HQA'.out.below b2
      have HQ3 := HQ2.snoc (p := p) (s := fresh g k) (by
        show QAt w2 w.heap.size p ((fresh g k).cap : Int) (g k 1) (.slice none 0 0) [] 0
        rw [HF.out]
        exact q2.base HBA.out.size) (fun i hi e => by
          have h1 := (HQA'.out.at_ i hi).lt
          have h2 := q2.low
          omega) (fun i hi g' _ e => by cases e)
      have HQ4 := hid (HQ3.congr (P' := putN P k p) (q' := fresh g) (fun _ _ => rfl) (fun i hi => by
        by_cases hik : i = k
        · subst hik; rw [putN_same]
        · rw [putN_other _ _ hik]))
      have hsz := HB2.out.size
      clear q2 b2 HQ2 HQ3 HOA' HQA' HBA HO HQ HB
      go_wp2_with (at_builtin; refine wpList_append_own _ rfl _ _ 34 rfl w.heap.size 39 i0 (.pointer none) 1 8 Try.underlying34 hi hz0 hz1 hz2 rfl (by decide) u4 k _ rfl (HO2.out.alloc _) ⟨w2.heap.size, 0, none⟩ 1 1 [.pointer (some ⟨p, 0, none⟩)] rfl rfl (one_val _ _ _) (by simp [Value.oneCell']) (by unfold maxLen; omega) (by omega) (by simp; omega) ?_; intro v' w3 hown3 hgrow3 _; have HO3 := hid hown3; have HQ5 := hid (((HQ4.out.below ((Below.refl w2.heap.size w2).alloc (Nat.le_refl _) _)).grown (HO2.out.alloc _) (by decide) hgrow3)); have HB3 := hid ((HB2.out.alloc hsz _).grown hgrow3 (by simp; omega) fun j hj => (HO2.out.lt j hj).1); clear hown3 hgrow3)
      go_roundw
      case rel => exact ⟨k + 1, putN P k p, by omega, by go_num, by rw [ptrs_snoc]; exact HO3.out, HQ5, HB3⟩
      case measure => simp [intOf]; omega
    · obtain rfl : k = n := by omega
      have t0 : decide ((k : Int) < (k : Int)) = false := by simp
      go_wp2
      go_ret2
      exact ⟨P, _, rfl, HO.out, HQ.out, HB.out⟩
set_option maxRecDepth 100000 in
set_option maxHeartbeats 1000000 in
theorem make_bad (ao : Option Addr) (n ca : Nat) (g : Nat → Nat → Int) (w : World) (_hn : n ≤ 100) (hT : Sets w ao n g) (hR : ¬ RightS n g) :
    Calls Try.prog 14 #[.slice ao n ca] w fun e w' => e = .returned (.tuple #[.slice none 0 0, .int .i64 104]) ∧ Below w.heap.size w w' := by
  obtain ⟨i0, hi, hz0, hz1, hz2⟩ := info_parts infoQp
  by_cases hn : 4 < n
  · have t9 : decide ((4 : Int) < (n : Int)) = true := by simp; omega
    go_enter Try.func14, Try.ntmps14
    go_wp2
    go_ret2
    exact ⟨rfl, Below.refl _ _⟩
  · have HT := hid hT
    have HR := hid hR
    have t9 : decide ((4 : Int) < (n : Int)) = false := by simp; omega
    have HQ0 : Hid (Qs w w.heap.size 0 (fun _ => 0) (fresh g)) := ⟨fun i hi => by omega, fun i j hi => by omega, fun i j hi => by omega⟩
    have HA0 : Hid (∀ j, j < 0 → rightB (g j 0) (g j 1) = true) := fun j hj => by omega
    clear hT hR
    go_enter Try.func14, Try.ntmps14
    go_wp2
    go_loopw [4, 7, 8, 14] (fun v _ _ i wr => ∃ (k : Nat) (P : Nat → Nat), k ≤ n ∧ i = .int .i64 k ∧ Hid (∀ j, j < k → rightB (g j 0) (g j 1) = true) ∧ Hid (wr.ownsRow w.heap.size 39 1 v k (ptrs P k)) ∧ Hid (Qs wr w.heap.size k P (fresh g)) ∧ Hid (Below w.heap.size w wr)) (fun _ _ _ i _ => n - (intOf i).toNat)
    case atStart => exact ⟨0, fun _ => 0, by omega, rfl, HA0, World.ownsRow_nil _ _ _ _, HQ0, Below.refl _ _⟩
    case round =>
      clear HQ0 HA0
      obtain ⟨k, P, hk, rfl, HA, HO, HQ, HB⟩ := hrel
      by_cases hlt : k < n
      · have t0 : decide ((k : Int) < (n : Int)) = true := by simp; omega
        obtain ⟨b, o, rfl, c0, c1⟩ := (HT.out.below HB.out) k hlt
        have i0' : (0 : Int) ≤ (k : Int) := by omega
        have i1 : (k : Int) < (n : Int) := by omega
        cases HRk : rightB (g k 0) (g k 1) with
        | false =>
          have BA := HB.out.alloc HB.out.size (Obj.cells #[.int .i64 (g k 0), .int .i64 (g k 1)] 43)
          have HBA := hid BA
          clear BA
          go_wp2_with fail
          refine (new_bad (g k 0) (g k 1) _ HRk).mono ?_
          rintro e w2 ⟨rfl, b2⟩
          have HB2 := hid (HBA.out.trans (b2.mono HBA.out.size))
          go_wp2
          go_ret2
          exact ⟨rfl, HB2.out⟩
        | true =>
          have hcap := (rightB_is.1 HRk).1
          have HF : Hid (((fresh g k).cap : Int) = g k 0) := by
            show (((g k 0).toNat : Nat) : Int) = g k 0
            omega
          have HR2 : Hid (∀ j, j < k + 1 → rightB (g j 0) (g j 1) = true) := fun j hj => by
            rcases (show j < k ∨ j = k by omega) with h | rfl
            · exact HA.out j h
            · exact HRk
          have BA := HB.out.alloc HB.out.size (Obj.cells #[.int .i64 (g k 0), .int .i64 (g k 1)] 43)
          have HOA := HO.out.alloc (Obj.cells #[.int .i64 (g k 0), .int .i64 (g k 1)] 43)
          have HQA := HQ.out.below (((Below.refl wr.heap.size wr).alloc (Nat.le_refl _) (Obj.cells #[.int .i64 (g k 0), .int .i64 (g k 1)] 43)))
          have HBA := hid BA
          have HOA' := hid HOA
          have HQA' := hid HQA
          clear BA HOA HQA
          go_wp2_with fail
          refine (new_good (g k 0) (g k 1) _ HRk).mono ?_
          rintro e w2 ⟨p, rfl, q2, b2⟩
          have HB2 := hid (HBA.out.trans (b2.mono HBA.out.size))
          have HO2 := hid (own_save HOA'.out (Save.of_below b2 fun _ => False) fun _ _ => id)
          have HQ2 := HQA'.out.below b2
          have HQ3 := HQ2.snoc (p := p) (s := fresh g k) (by
            show QAt w2 w.heap.size p ((fresh g k).cap : Int) (g k 1) (.slice none 0 0) [] 0
            rw [HF.out]
            exact q2.base HBA.out.size) (fun i hi e => by
              have h1 := (HQA'.out.at_ i hi).lt
              have h2 := q2.low
              omega) (fun i hi g' _ e => by cases e)
          have HQ4 := hid (HQ3.congr (P' := putN P k p) (q' := fresh g) (fun _ _ => rfl) (fun i hi => by
            by_cases hik : i = k
            · subst hik; rw [putN_same]
            · rw [putN_other _ _ hik]))
          have hsz := HB2.out.size
          clear q2 b2 HQ2 HQ3 HOA' HQA' HBA HO HQ HB
          go_wp2_with (at_builtin; refine wpList_append_own _ rfl _ _ 34 rfl w.heap.size 39 i0 (.pointer none) 1 8 Try.underlying34 hi hz0 hz1 hz2 rfl (by decide) u4 k _ rfl (HO2.out.alloc _) ⟨w2.heap.size, 0, none⟩ 1 1 [.pointer (some ⟨p, 0, none⟩)] rfl rfl (one_val _ _ _) (by simp [Value.oneCell']) (by unfold maxLen; omega) (by omega) (by simp; omega) ?_; intro v' w3 hown3 hgrow3 _; have HO3 := hid hown3; have HQ5 := hid (((HQ4.out.below ((Below.refl w2.heap.size w2).alloc (Nat.le_refl _) _)).grown (HO2.out.alloc _) (by decide) hgrow3)); have HB3 := hid ((HB2.out.alloc hsz _).grown hgrow3 (by simp; omega) fun j hj => (HO2.out.lt j hj).1); clear hown3 hgrow3)
          go_roundw
          case rel => exact ⟨k + 1, putN P k p, by omega, by go_num, HR2, by rw [ptrs_snoc]; exact HO3.out, HQ5, HB3⟩
          case measure => simp [intOf]; omega
      · exfalso
        obtain rfl : k = n := by omega
        exact HR.out ⟨by omega, HA.out⟩
end Go.Proofs.Ytmkpimdbmjpelaa
