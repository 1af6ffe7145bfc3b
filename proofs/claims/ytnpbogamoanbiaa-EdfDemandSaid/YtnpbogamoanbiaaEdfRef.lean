/-
  Contracts of layer 46's document and of the law's guard; that all ways to tell whether none is ever late say the same.
-/
import Derived.Test.YtnpbogamoanbiaaEdfFits
namespace Go.Proofs.Ytnpbogamoanbiaa
open Go.RowKit
theorem has1_of {x : TK} (h : OkK x) {t : Int} {j : Nat} (h1 : t < x.d + j * x.p) (h2 : j = 0 ∨ x.d + (j - 1) * x.p ≤ t) : has1 t x = j * x.c := by
  obtain ⟨p1, p2, d1, d2, c1, c2⟩ := h
  unfold has1
  rcases h2 with rfl | h2
  · rw [if_pos (by omega)]; simp
  · by_cases hj : j = 0
    · subst hj; rw [if_pos (by omega)]; simp
    · have h3 : (0 : Int) ≤ ((j : Int) - 1) * x.p := Int.mul_nonneg (by omega) (by omega)
      rw [if_neg (by omega)]
      congr 1
      have e : t - x.d = (t - x.d - (j - 1) * x.p) + (j - 1) * x.p := by omega
      rw [e, Int.add_mul_ediv_right _ _ (by omega), Int.ediv_eq_zero_of_lt (by omega) (by rw [Int.sub_mul] at *; omega)]
      omega
set_option maxRecDepth 100000 in
set_option maxHeartbeats 1000000 in
theorem refDemand_any (x : Nat → Int) (t : Int) (w : World) (h : OkK (tkOf x)) (ht : t ≤ 65536) : Calls Try.prog 22 #[tv x, .int .i64 t] w fun e w' => e = .returned (.int .i64 (has1 t (tkOf x))) ∧ Below w.heap.size w w' := by
  have b0 : Below w.heap.size w (w.alloc (Obj.cells #[Value.int .i64 (x 0), Value.int .i64 (x 1), Value.int .i64 (x 2), Value.int .i64 (x 3), Value.int .i64 (x 4), Value.int .i64 (x 5), Value.int .i64 (x 6), Value.int .i64 (x 7), Value.int .i64 (x 8), Value.int .i64 (x 9), Value.int .i64 (x 10)] 24)) := (Below.refl _ _).alloc (Nat.le_refl _) _
  have HO := hid h
  obtain ⟨p1, p2, d1, d2, q1, q2⟩ := h
  dsimp only [tkOf] at p1 p2 d1 d2 q1 q2
  obtain ⟨R, hR⟩ : ∃ R, has1 t (tkOf x) = R := ⟨_, rfl⟩
  have HR := hid hR
  rw [hR]
  clear hR
  unfold tv
  go_enter Try.func22, Try.ntmps22
  go_wp2
  go_loop [5, 6] (fun n a => ∃ (j : Nat) (N A : Int), n = .int .i64 N ∧ a = .int .i64 A ∧ Hid (A = x 1 + j * x 0) ∧ Hid (N = j * x 2) ∧ 0 ≤ N ∧ N ≤ j * 4096 ∧ (j : Int) + 1 ≤ A ∧ A ≤ 70000 ∧ (j = 0 ∨ A - x 0 ≤ t)) (fun _ a => (70000 - intOf a).toNat)
  case atStart => exact ⟨0, 0, x 1, rfl, rfl, by show _ = _; simp, by show _ = _; simp, by omega, by omega, by simp; omega, by omega, .inl rfl⟩
  case round =>
    obtain ⟨j, N, A, rfl, rfl, HA, HN, n0, n1, a0, a1, ha⟩ := hrel
    by_cases hle : A ≤ t
    · have HA2 := hid (show A + x 0 = x 1 + ((j + 1 : Nat) : Int) * x 0 by rw [HA.out]; simp [Int.add_mul]; omega)
      have HN2 := hid (show N + x 2 = ((j + 1 : Nat) : Int) * x 2 by rw [HN.out]; simp [Int.add_mul])
      go_wp2
      go_round
      case rel => exact ⟨j + 1, _, _, rfl, rfl, HA2, HN2, by omega, by omega, by omega, by omega, .inr (by omega)⟩
      case measure => simp [intOf]; omega
    · have HE := hid (has1_of HO.out (t := t) (j := j) (by show t < x 1 + j * x 0; rw [← HA.out]; omega) (by
        rcases ha with h | h
        · exact .inl h
        · right
          show x 1 + ((j : Int) - 1) * x 0 ≤ t
          rw [HA.out] at h
          rw [Int.sub_mul]; omega))
      go_wp2
      go_ret
      exact ⟨by rw [← HR.out, HE.out, HN.out]; rfl, b0⟩
set_option maxRecDepth 100000 in
set_option maxHeartbeats 1000000 in
theorem refAll_any (ao : Option Addr) (n cap : Nat) (g : Nat → Nat → Int) (t : Int) (w : World) (hn : n ≤ 20) (hT : Tasks w ao n g) (hG : ∀ i, i < n → OkK (tkOf (g i))) (h0 : 0 ≤ t) (ht : t ≤ 65536) :
    Calls Try.prog 12 #[.slice ao n cap, .int .i64 t] w fun e w' => e = .returned (.int .i64 (hasN t (fun i => tkOf (g i)) n)) ∧ Below w.heap.size w w' := by
  obtain ⟨f, hf⟩ : ∃ f : Nat → TK, f = fun i => tkOf (g i) := ⟨_, rfl⟩
  have hHO : ∀ i, i < n → OkK (f i) := fun i hi => by rw [hf]; exact hG i hi
  have HO := hid hHO
  have HFK := hid (show ∀ k, f k = tkOf (g k) from fun k => by rw [hf])
  have HB := hid (fun (k : Nat) (hk : k ≤ n) => And.intro (hasN_nonneg (t := t) (fun i hi => HO.out i (by omega) : ∀ i, i < k → OkK (f i))) (hasN_bound (fun i hi => HO.out i (by omega) : ∀ i, i < k → OkK (f i)) h0 ht))
  rw [← hf]
  clear hf hHO hG
  go_enter Try.func12, Try.ntmps12
  go_wp2
  go_loopw [5, 6] (fun v i wr => ∃ k : Nat, k ≤ n ∧ i = .int .i64 k ∧ v = .int .i64 (hasN t f k) ∧ Below w.heap.size w wr) (fun _ i _ => n - (intOf i).toNat)
  case atStart => exact ⟨0, Nat.zero_le _, rfl, rfl, Below.refl _ _⟩
  case round =>
    obtain ⟨k, hk, rfl, rfl, B1⟩ := hrel
    by_cases hlt : k < n
    · obtain ⟨b, o, rfl, hbl⟩ := hT.form hlt
      obtain ⟨⟨c0, c1, c2, c3⟩, ⟨c4, c5, c6, c7⟩, c8, c9, c10⟩ := (hT.below B1).at_ hlt
      have hok := HO.out k hlt
      rw [HFK.out] at hok
      have hb0 := HB.out k hk
      have hb1 := HB.out (k + 1) (by omega)
      have h1n := has1_nonneg (t := t) hok
      have HS := hid (show hasN t f (k + 1) = hasN t f k + has1 t (tkOf (g k)) by show hasN t f k + has1 t (f k) = _; rw [HFK.out])
      rw [HS.out] at hb1
      have HD := hid (refDemand_any (g k) t wr hok ht)
      obtain ⟨z, hz⟩ : ∃ z, hasN t f k = z := ⟨_, rfl⟩
      rw [hz] at HS hb0 hb1 ⊢
      obtain ⟨y, hy⟩ : ∃ y, has1 t (tkOf (g k)) = y := ⟨_, rfl⟩
      rw [hy] at HS HD hb1 h1n
      clear hz hy hok
      go_wp2_with fail
      refine HD.out.mono ?_
      rintro e w1 ⟨rfl, hb⟩
      have B2 := B1.trans (hb.mono B1.size)
      go_wp2
      go_roundw
      case rel => exact ⟨k + 1, by omega, by go_num, by rw [HS.out], B2⟩
      case measure => simp [intOf]; omega
    · obtain rfl : k = n := by omega
      have t1 : decide ((k : Int) < (k : Int)) = false := by simp
      go_wp2
      go_ret
      exact ⟨rfl, B1⟩
/-- Is a tick some job's deadline? -/
def ptB (t : Int) (f : Nat → TK) : Nat → Bool
  | 0 => false
  | k + 1 => ptB t f k || (decide ((f k).d ≤ t) && (t - (f k).d) % (f k).p == 0)
theorem ptB_iff {t : Int} {f : Nat → TK} {n : Nat} : ptB t f n = true ↔ isPt t f n := by
  induction n with
  | zero => exact ⟨fun h => (by cases h), fun ⟨i, hi, _⟩ => by omega⟩
  | succ n ih =>
    show (ptB t f n || _) = true ↔ _
    rw [Bool.or_eq_true, ih, Bool.and_eq_true, decide_eq_true_iff, beq_iff_eq]
    constructor
    · rintro (⟨i, hi, h⟩ | h)
      · exact ⟨i, by omega, h⟩
      · exact ⟨n, by omega, h⟩
    · rintro ⟨i, hi, h⟩
      rcases (show i < n ∨ i = n by omega) with e | rfl
      · exact .inl ⟨i, e, h⟩
      · exact .inr h
set_option maxRecDepth 100000 in
set_option maxHeartbeats 1000000 in
theorem refPoint_any (ao : Option Addr) (n cap : Nat) (g : Nat → Nat → Int) (t : Int) (w : World) (hn : n ≤ 20) (hT : Tasks w ao n g) (hG : ∀ i, i < n → OkK (tkOf (g i))) (h0 : 0 ≤ t) (ht : t ≤ 65536) :
    Calls Try.prog 23 #[.slice ao n cap, .int .i64 t] w fun e w' => e = .returned (.bool (ptB t (fun i => tkOf (g i)) n)) ∧ Below w.heap.size w w' := by
  obtain ⟨f, hf⟩ : ∃ f : Nat → TK, f = fun i => tkOf (g i) := ⟨_, rfl⟩
  have hHO : ∀ i, i < n → OkK (f i) := fun i hi => by rw [hf]; exact hG i hi
  have HO := hid hHO
  have HFK := hid (show ∀ k, f k = tkOf (g k) from fun k => by rw [hf])
  rw [← hf]
  clear hf hHO hG
  obtain ⟨R, hR⟩ : ∃ R, ptB t f n = R := ⟨_, rfl⟩
  have HR := hid hR
  rw [hR]
  clear hR
  have HYES : Hid (∀ k, k < n → (f k).d ≤ t → (t - (f k).d) % (f k).p = 0 → R = true) := fun k hk h1 h2 => by
    rw [← HR.out]
    exact ptB_iff.2 ⟨k, hk, h1, h2⟩
  go_enter Try.func23, Try.ntmps23
  go_wp2
  go_loopw [5] (fun i wr => ∃ k : Nat, k ≤ n ∧ i = .int .i64 k ∧ Hid (ptB t f k = false) ∧ Below w.heap.size w wr) (fun i _ => n - (intOf i).toNat)
  case atStart => exact ⟨0, Nat.zero_le _, rfl, rfl, Below.refl _ _⟩
  case round =>
    obtain ⟨k, hk, rfl, HF, B1⟩ := hrel
    by_cases hlt : k < n
    · obtain ⟨b, o, rfl, hbl⟩ := hT.form hlt
      obtain ⟨⟨c0, c1, c2, c3⟩, ⟨c4, c5, c6, c7⟩, c8, c9, c10⟩ := (hT.below B1).at_ hlt
      have hok := HO.out k hlt
      have HY := hid (HYES.out k hlt)
      have HS := hid (show ptB t f (k + 1) = (decide (g k 1 ≤ t) && (t - g k 1) % g k 0 == 0) by
        show (ptB t f k || _) = _
        rw [HF.out, HFK.out]; rfl)
      rw [HFK.out] at hok HY
      obtain ⟨p1, p2, d1, d2, q1, q2⟩ := hok
      dsimp only [tkOf] at p1 p2 d1 d2 q1 q2 HY
      have t1 : decide ((k : Int) < (n : Int)) = true := by simp; omega
      have i0 : (0 : Int) ≤ (k : Int) := by omega
      have i1 : (k : Int) < (n : Int) := by omega
      have e5 : g k 0 ≠ 0 := by omega
      by_cases hd : g k 1 ≤ t
      · have t2 : decide (g k 1 ≤ t) = true := by simpa using hd
        have e1 : IntKind.i64.wrap (t - g k 1) = t - g k 1 := IntWalk.i64_in _ (by omega)
        have e2 : (t - g k 1).tmod (g k 0) = (t - g k 1) % g k 0 := Int.tmod_eq_emod_of_nonneg (by omega)
        have hm0 := Int.emod_nonneg (t - g k 1) e5
        have hm1 := Int.emod_lt_of_pos (t - g k 1) (show 0 < g k 0 by omega)
        obtain ⟨q, hq⟩ : ∃ q, (t - g k 1) % g k 0 = q := ⟨_, rfl⟩
        rw [hq] at HY HS e2 hm0 hm1
        clear hq
        have e3 : IntKind.i64.wrap q = q := IntWalk.i64_in _ (by omega)
        by_cases hz : q = 0
        · have t3 : (q == 0) = true := by simpa using hz
          have HT := hid (HY.out hd hz)
          clear hz
          go_wp2
          go_quiet (fail)
          go_wp2
          go_ret
          exact ⟨by rw [HT.out]; rfl, B1.trans ⟨rfl, rfl, rfl, Nat.le_refl _, fun _ _ => rfl⟩⟩
        · have t3 : (q == 0) = false := by simpa using hz
          have HF2 : Hid (ptB t f (k + 1) = false) := by show _ = _; rw [HS.out, t2, t3]; rfl
          clear hz
          go_wp2
          go_quiet (fail)
          go_wp2
          go_roundw
          case rel => exact ⟨k + 1, by omega, by go_num, HF2, B1.trans ⟨rfl, rfl, rfl, Nat.le_refl _, fun _ _ => rfl⟩⟩
          case measure => simp [intOf]; omega
      · have t2 : decide (g k 1 ≤ t) = false := by simpa using hd
        have HF2 : Hid (ptB t f (k + 1) = false) := by show _ = _; rw [HS.out, t2]; rfl
        go_wp2
        go_quiet (fail)
        go_wp2
        go_roundw
        case rel => exact ⟨k + 1, by omega, by go_num, HF2, B1.trans ⟨rfl, rfl, rfl, Nat.le_refl _, fun _ _ => rfl⟩⟩
        case measure => simp [intOf]; omega
    · obtain rfl : k = n := by omega
      have t1 : decide ((k : Int) < (k : Int)) = false := by simp
      go_wp2
      go_ret
      exact ⟨by rw [← HR.out, HF.out]; rfl, B1⟩
end Go.Proofs.Ytnpbogamoanbiaa
