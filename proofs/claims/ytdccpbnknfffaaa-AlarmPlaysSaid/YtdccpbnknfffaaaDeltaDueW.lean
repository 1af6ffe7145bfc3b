/-
  Layer 23: the walk of DeltaDue.
-/
import Derived.Test.YtdccpbnknfffaaaDeltaAlive
import Derived.Deep.RegionHeld3
namespace Go.Proofs.Ytdccpbnknfffaaa
open Go.RowKit
/-- Calls: what, which, in how many ticks. -/
def OpsD (w : World) (ao : Option Addr) (n : Nat) (g : Nat → Nat → Int) : Prop := ∀ i, i < n → ∃ b o, ao = some ⟨b, o, none⟩ ∧ w.cell? ⟨b, o + i * 3, none⟩ = some (.int .i64 (g i 0)) ∧ w.cell? ⟨b, o + i * 3 + 1, none⟩ = some (.int .i64 (g i 1)) ∧ w.cell? ⟨b, o + i * 3 + 2, none⟩ = some (.int .i64 (g i 2))
theorem addR_len (id t : Int) (r : TL) : (addR id t r).length ≤ r.length + 1 := by
  unfold addR
  split
  · rw [List.length_append]
    have : (dropR id r).length ≤ r.length := List.length_filter_le _ _
    simp; omega
  · omega
theorem addR_mem {id t : Int} {r : TL} {x : Int × Int} (h : x ∈ addR id t r) : x ∈ r ∨ x.1 = id := by
  unfold addR at h
  split at h
  · rcases List.mem_append.1 h with h | h
    · exact .inl (List.mem_filter.1 h).1
    · simp only [List.mem_singleton] at h; subst h; exact .inr rfl
  · exact .inl h
theorem dist_one {r : TL} {id s t : Int} (h : Dist r) (h1 : (id, s) ∈ r) (h2 : (id, t) ∈ r) : s = t := by
  have e1 := (look_some h).2 h1
  have e2 := (look_some h).2 h2
  rw [e1] at e2
  exact Option.some.inj e2
theorem due_mem {r : TL} {id s : Int} (h : Dist r) (h1 : (id, s) ∈ r) : id ∈ dueR r ↔ s = 1 := by
  unfold dueR
  constructor
  · intro hm
    obtain ⟨⟨i, t⟩, hx, e⟩ := List.mem_map.1 hm
    obtain ⟨hx1, hx2⟩ := List.mem_filter.1 hx
    have e : i = id := e
    have hx2 : t = 1 := by simpa using hx2
    subst e hx2
    exact dist_one h h1 hx1
  · rintro rfl
    exact List.mem_map.2 ⟨(id, 1), List.mem_filter.2 ⟨h1, by simp⟩, rfl⟩
theorem left_mem {r : TL} {id s : Int} (h1 : (id, s) ∈ r) (hs : s ≠ 1) : (id, s - 1) ∈ leftR r :=
  List.mem_map.2 ⟨(id, s), List.mem_filter.2 ⟨h1, by simpa using hs⟩, rfl⟩
theorem dueR_len {r : TL} : (dueR r).length ≤ r.length := by
  unfold dueR
  rw [List.length_map]
  exact List.length_filter_le _ _
theorem QS.len {W : World} {base qb : Nat} {r : TL} (h : QS W base qb r) : r.length ≤ 64 := h.choose_spec.2.len
theorem QS.ds {W : World} {base qb : Nat} {r : TL} (h : QS W base qb r) : Dist r := h.choose_spec.2.ds
theorem drew_below (w : World) : Below w.heap.size w w.drew := ⟨rfl, rfl, rfl, Nat.le_refl _, fun _ _ => rfl⟩
set_option maxRecDepth 100000 in
set_option maxHeartbeats 4000000 in
theorem deltaDue_walk (ao : Option Addr) (n cap : Nat) (g : Nat → Nat → Int) (a b : Int) (w : World) (hT : OpsD w ao n g) (hm : n ≤ maxLen) (hq : n ≤ cap ∧ cap ≤ maxLen) :
    Calls Try.prog 4 #[.slice ao n cap, .int .i64 a, .int .i64 b] w fun e w' => e = .returned (.bool true) ∧ Below w.heap.size w w' := by
  unfold maxLen at hm hq
  by_cases hg : 60 < n ∨ b < 1 ∨ 2000 < b
  · have key : (decide (60 < (n : Int)) = true) ∨ (decide (60 < (n : Int)) = false ∧ decide (b < 1) = true) ∨ (decide (60 < (n : Int)) = false ∧ decide (b < 1) = false ∧ decide (2000 < b) = true) := by
      simp only [decide_eq_true_eq, decide_eq_false_iff_not]
      omega
    clear hg
    rcases key with h | ⟨h, k⟩ | ⟨h, k, l⟩
    all_goals
      go_enter Try.func4, Try.ntmps4
      go_wp2
      go_ret
      exact ⟨rfl, Below.refl _ _⟩
  · have hn : n ≤ 60 := by omega
    have hb0 : 1 ≤ b := by omega
    have hb1 : b ≤ 2000 := by omega
    have d0 : decide (60 < (n : Int)) = false := by simp; omega
    have d1 : decide (b < 1) = false := by simp; omega
    have d2 : decide (2000 < b) = false := by simp; omega
    have h0 := hid (qs_new w (base := w.heap.size) (Nat.le_refl _))
    have hB0 := hid (show Below w.heap.size w (w.alloc (Obj.cells #[.pointer none, .int .i64 0] 26)) from (Below.refl _ _).alloc (Nat.le_refl _) _)
    have HT := hid hT
    clear hg hm hq hT
    go_enter Try.func4, Try.ntmps4
    go_wp2
    go_loopw [8] (fun i_ wr => ∃ (k : Nat) (r : TL), i_ = .int .i64 k ∧ k ≤ n ∧ Hid (QS wr w.heap.size w.heap.size r) ∧ Hid (Below w.heap.size w wr) ∧ r.length ≤ k ∧ Hid (∀ x ∈ r, x.1 ≠ a)) (fun i_ _ => n - (intOf i_).toNat)
    case atStart => exact ⟨0, [], rfl, by omega, h0, hB0, by simp, fun x hx => (by cases hx)⟩
    case round =>
      clear h0 hB0
      obtain ⟨k, r, rfl, hk, HQ, HB, hrl, HA⟩ := hrel
      by_cases hlt : k < n
      · obtain ⟨rb, ro, rfl, _, c1, c2⟩ := HT.out k hlt
        have e1 := (HB.out.cell (cell_lt c1)).trans c1
        have e2 := (HB.out.cell (cell_lt c2)).trans c2
        have hlow := cell_lt c1
        generalize g k 1 = id at e1 c1
        generalize g k 2 = tt at e2 c2
        have i0 : (0 : Int) ≤ (k : Int) := by omega
        have i1 : (k : Int) < (n : Int) := by omega
        by_cases hid1 : id = a
        · have t1 : (id != a) = false := by simpa [bne] using hid1
          clear c1 c2
          go_wp2
          go_roundw
          case rel => exact ⟨k + 1, r, by go_num, by omega, HQ, HB, by omega, HA⟩
          case measure => simp [intOf]; omega
        · have t1 : (id != a) = true := by simpa [bne] using hid1
          have HAD := hid (qadd_any _ _ r id tt wr.drew (HQ.out.below (drew_below wr)))
          have HKE := hid (fun w3 (k3 : QK w.heap.size w.heap.size wr.drew w3) => show w3.cell? ⟨rb, ro + k * 3 + 1, none⟩ = some (.int .i64 id) ∧ w3.cell? ⟨rb, ro + k * 3 + 2, none⟩ = some (.int .i64 tt) from
            have hb3 := (HB.out.trans ((drew_below wr).mono HB.out.size)).trans k3.b
            ⟨(hb3.cell (cell_lt c1)).trans c1, (hb3.cell (cell_lt c2)).trans c2⟩)
          have HA2 : Hid (∀ x ∈ addR id tt r, x.1 ≠ a) := fun x hx => by
            rcases addR_mem hx with h | h
            · exact HA.out x h
            · rw [h]; exact hid1
          have hl2 := addR_len id tt r
          have HBD := hid (HB.out.trans ((drew_below wr).mono HB.out.size))
          clear c1 c2 HQ HA
          go_wp2
          go_region_held3 (fun w' => w'.cell? ⟨rb, ro + k * 3 + 1, none⟩ = some (.int .i64 id) ∧ w'.cell? ⟨rb, ro + k * 3 + 2, none⟩ = some (.int .i64 tt)) (first | go_keep | exact HKE.out _ k3) (first | (go_at_call 13; refine HAD.out.mono ?_; rintro e w3 ⟨rfl, q3, k3⟩))
          have Q3 := hid q3
          have K3 := hid (HBD.out.trans k3.b)
          go_wp2
          go_roundw
          case rel => exact ⟨k + 1, addR id tt r, by go_num, by omega, Q3, K3, by omega, HA2⟩
          case measure => simp [intOf]; omega
      · obtain rfl : k = n := by omega
        go_wp2_with fail
        refine (qadd_any _ _ r a b _ HQ.out).mono ?_
        rintro e w1 ⟨rfl, q1, k1⟩
        have hok : okR a b r = true := by
          unfold okR
          rw [decide_eq_true (show 1 ≤ b ∧ b ≤ 65536 by omega), decide_eq_true (show r.length < 64 by omega)]; simp
        have HM : Hid ((a, b) ∈ addR a b r) := by
          show _ ∈ _
          unfold addR
          rw [hok, if_pos rfl]; simp
        rw [hok]
        have Q1 := hid q1
        have K1 := hid (HB.out.trans k1.b)
        clear HQ HB q1 k1 HA hok HT
        go_wp2
        go_loopw [9] (fun i_ wr => ∃ (s : Nat) (r : TL), i_ = .int .i64 ((s : Int) + 1) ∧ (s : Int) ≤ b ∧ Hid (QS wr w.heap.size w.heap.size r) ∧ Hid (Below w.heap.size w wr) ∧ Hid (((a, b - s) ∈ r) ∨ (s : Int) = b)) (fun i_ _ => 2002 - (intOf i_).toNat)
        case atStart => exact ⟨0, _, rfl, by omega, Q1, K1, .inl (by have := HM.out; simpa using this)⟩
        case round =>
          clear Q1 K1 HM
          obtain ⟨s, r, rfl, hs, HQ, HB, HS⟩ := hrel
          by_cases hlt : (s : Int) < b
          · have t2 : decide ((s : Int) + 1 ≤ b) = true := by simp; omega
            have hmem : (a, b - s) ∈ r := by
              rcases HS.out with h | h
              · exact h
              · omega
            have HD := hid (due_mem HQ.out.ds hmem)
            have HL2 : Hid (((a, b - ((s + 1 : Nat) : Int)) ∈ leftR r) ∨ ((s + 1 : Nat) : Int) = b) := by
              by_cases h : b - (s : Int) = 1
              · exact .inr (by omega)
              · have := left_mem hmem h
                rw [show b - (s : Int) - 1 = b - ((s + 1 : Nat) : Int) by omega] at this
                exact .inl this
            have hdl := dueR_len (r := r)
            have hrl2 := HQ.out.len
            clear hmem
            go_wp2_with fail
            refine (qtick_any _ _ _ _ HQ.out).mono ?_
            rintro e w2 ⟨v2, rfl, p2, q2, k2⟩
            have Q2 := hid q2
            have K2 := hid (HB.out.trans k2.b)
            obtain ⟨oo, oc, rfl, hr⟩ := own_iv p2 rfl
            obtain ⟨D, hD⟩ : ∃ D, dueR r = D := ⟨_, rfl⟩
            rw [hD] at HD hr hdl ⊢
            obtain ⟨m, hmm⟩ : ∃ m, D.length = m := ⟨_, rfl⟩
            have HMM := hid hmm
            rw [hmm] at hr hdl ⊢
            have HR := hid hr
            clear hD hmm hr p2 q2 k2 HQ HB
            go_wp2
            have hm64 : m ≤ 64 := by omega
            have hb1' : b ≤ 2000 := hb1
            have hs0 : (0 : Int) ≤ (s : Int) := by omega
            go_loop [11, 12] (fun h j_ => ∃ i : Nat, j_ = .int .i64 i ∧ i ≤ m ∧ h = .bool (decide (a ∈ D.take i))) (fun _ j_ => m - (intOf j_).toNat)
            case atStart => exact ⟨0, rfl, by omega, by simp⟩
            case round =>
              obtain ⟨i, rfl, hi, rfl⟩ := hrel
              by_cases him : i < m
              · obtain ⟨b2, o2, rfl, hc0⟩ := HR.out i him
                have hc : w2.cell? ⟨b2, o2 + i, none⟩ = some (.int .i64 (D.getD i 0)) := hc0
                have HS1 : Hid (decide (a ∈ D.take (i + 1)) = (decide (a ∈ D.take i) || (D.getD i 0 == a))) := by
                  have hiD : i < D.length := by rw [HMM.out]; exact him
                  show _ = _
                  rw [List.take_succ_eq_append_getElem hiD, Bool.eq_iff_iff]
                  simp only [decide_eq_true_eq, List.mem_append, List.mem_singleton, Bool.or_eq_true, beq_iff_eq]
                  rw [List.getD_eq_getElem?_getD, List.getElem?_eq_getElem hiD, Option.getD_some]
                  constructor
                  · rintro (h | h)
                    · exact .inl h
                    · exact .inr h.symm
                  · rintro (h | h)
                    · exact .inl h
                    · exact .inr h.symm
                generalize D.getD i 0 = x at hc HS1
                have i0 : (0 : Int) ≤ (i : Int) := by omega
                have i1 : (i : Int) < (m : Int) := by omega
                clear hc0
                cases h : decide (a ∈ D.take i)
                · rw [h, Bool.false_or] at HS1
                  have HP := HS1
                  clear HS1
                  go_wp2
                  go_round
                  case rel => exact ⟨i + 1, by go_num, by omega, by rw [HP.out]⟩
                  case measure => simp [intOf]; omega
                · rw [h, Bool.true_or] at HS1
                  have HP := HS1
                  clear HS1
                  go_wp2
                  go_round
                  case rel => exact ⟨i + 1, by go_num, by omega, by rw [HP.out]⟩
                  case measure => simp [intOf]; omega
              · obtain rfl : i = m := by omega
                have hE : decide (a ∈ D.take i) = ((s : Int) + 1 == b) := by
                  rw [List.take_of_length_le (by rw [HMM.out]; exact Nat.le_refl _), Bool.eq_iff_iff, decide_eq_true_eq, HD.out, beq_iff_eq]
                  omega
                rw [hE]
                cases h : ((s : Int) + 1 == b)
                all_goals
                  go_wp2
                  go_roundw
                  case rel => exact ⟨s + 1, _, by go_num, by omega, Q2, K2, HL2⟩
                  case measure => simp [intOf]; omega
          · have t2 : decide ((s : Int) + 1 ≤ b) = false := by simp; omega
            go_wp2_with fail
            refine (dalive_any _).mono ?_
            rintro e w7 ⟨rfl, b2⟩
            go_wp2
            go_ret
            exact ⟨rfl, HB.out.trans (b2.mono HB.out.size)⟩
end Go.Proofs.Ytdccpbnknfffaaa
