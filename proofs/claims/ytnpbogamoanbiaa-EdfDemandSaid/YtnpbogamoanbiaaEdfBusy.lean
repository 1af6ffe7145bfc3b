/-
  Contracts: how long all may be at work at once (the program's and the document's).
-/
import Derived.Test.YtnpbogamoanbiaaEdf
namespace Go.Proofs.Ytnpbogamoanbiaa
open Go.RowKit
theorem mulR_yes {a b : Int} (ha : 0 ≤ a) (ha2 : a ≤ 1099511627776) (hb : 0 ≤ b) (hb2 : b ≤ 1099511627776) (h : a * b ≤ 1099511627776) : mulR a b = (a * b, true) := by
  unfold mulR
  rw [inB_mk ha ha2, inB_mk hb hb2, decide_eq_true h]; rfl
theorem upR_yes {a b : Int} (ha : 0 ≤ a) (ha2 : a ≤ 1099511627776) (hb : 1 ≤ b) (hb2 : b ≤ 1099511627776) : upR a b = ((a + b - 1) / b, true) := by
  unfold upR
  rw [inB_mk ha ha2, inB_mk (by omega) hb2, show (b == 0) = false by simp; omega]; rfl
/-- busyR from a number on. -/
def busyF (most : Int) (f : Nat → TK) (n : Nat) (x : Int) : Int × Bool := match run (fun w => (comes w f n, true)) most x 0 with | some (x, _) => (x, true) | none => (0, false)
theorem run_many (g : Int → Int × Bool) (most : Int) : ∀ (k : Nat) (w : Int) (m m' : Nat), (most + 1 - w).toNat ≤ k → (run g most w m).map (·.1) = (run g most w m').map (·.1) := by
  intro k
  induction k with
  | zero => intro w m m' hk; rw [run_over (by omega), run_over (by omega)]
  | succ k ih =>
    intro w m m' hk
    by_cases hw : w ≤ most
    · cases hg : (g w).2
      · rw [run_none hw hg, run_none hw hg]
      · by_cases hle : (g w).1 ≤ w
        · rw [run_some hw hg hle, run_some hw hg hle]; rfl
        · rw [run_on hw hg (by omega), run_on hw hg (by omega)]
          exact ih _ _ _ (by omega)
    · rw [run_over (by omega), run_over (by omega)]
theorem busyF_of (most : Int) (f : Nat → TK) (n : Nat) (x : Int) (m : Nat) : busyF most f n x = match (run (fun w => (comes w f n, true)) most x m).map (·.1) with | some x => (x, true) | none => (0, false) := by
  unfold busyF
  rw [← run_many _ _ _ x 0 m (Nat.le_refl _)]
  cases run (fun w => (comes w f n, true)) most x 0 <;> rfl
theorem busyF_over {most x : Int} {f : Nat → TK} {n : Nat} (h : most < x) : busyF most f n x = (0, false) := by
  unfold busyF; rw [run_over h]
theorem busyF_some {most x : Int} {f : Nat → TK} {n : Nat} (h : x ≤ most) (h2 : comes x f n ≤ x) : busyF most f n x = (x, true) := by
  unfold busyF; rw [run_some h rfl h2]
theorem busyF_on {most x : Int} {f : Nat → TK} {n : Nat} (h : x ≤ most) (h2 : x < comes x f n) : busyF most f n x = busyF most f n (comes x f n) := by
  rw [busyF_of most f n (comes x f n) 1]
  conv => lhs; unfold busyF
  rw [run_on h rfl h2]
  show _ = match Option.map (·.1) (run (fun w => (comes w f n, true)) most (comes x f n) (0 + 1)) with | some x => (x, true) | none => (0, false)
  cases run (fun w => (comes w f n, true)) most (comes x f n) (0 + 1) <;> rfl
theorem busyR_F (most : Int) (f : Nat → TK) (n : Nat) : busyR most f n = busyF most f n (costs f n) := rfl
set_option maxRecDepth 100000 in
set_option maxHeartbeats 2000000 in
theorem edfBusy_any (ao : Option Addr) (n cap : Nat) (g : Nat → Nat → Int) (most : Int) (w : World) (hn : n ≤ 20) (hT : Tasks w ao n g) (hG : ∀ i, i < n → OkK (tkOf (g i))) (hm : most ≤ 65536) :
    Calls Try.prog 24 #[.int .i64 most, .slice ao n cap] w fun e w' => e = .returned (rv (busyR most (fun i => tkOf (g i)) n)) ∧ Below w.heap.size w w' := by
  obtain ⟨f, hf⟩ : ∃ f : Nat → TK, f = fun i => tkOf (g i) := ⟨_, rfl⟩
  have HFK := hid (show ∀ k, f k = tkOf (g k) from fun k => by rw [hf])
  have HO : Hid (∀ i, i < n → OkK (f i)) := fun i hi => by rw [HFK.out]; exact hG i hi
  rw [← hf, busyR_F]
  clear hf hG
  have hca := hid (fun (k : Nat) (hk : k ≤ n) => costs_bound (fun i hi => HO.out i (by omega) : ∀ i, i < k → OkK (f i)))
  obtain ⟨R, hR⟩ : ∃ R, busyF most f n (costs f n) = R := ⟨_, rfl⟩
  have HR := hid hR
  rw [hR]
  clear hR
  go_enter Try.func24, Try.ntmps24
  go_wp2
  go_loopw [6, 22] (fun v i wr => ∃ k : Nat, k ≤ n ∧ i = .int .i64 k ∧ v = .int .i64 (costs f k) ∧ Below w.heap.size w wr) (fun _ i _ => n - (intOf i).toNat)
  case atStart => exact ⟨0, Nat.zero_le _, rfl, rfl, Below.refl _ _⟩
  case round =>
    obtain ⟨k, hk, rfl, rfl, B1⟩ := hrel
    by_cases hlt : k < n
    · obtain ⟨b, o, rfl, hbl⟩ := hT.form hlt
      obtain ⟨⟨c0, c1, c2, c3⟩, ⟨c4, c5, c6, c7⟩, c8, c9, c10⟩ := (hT.below B1).at_ hlt
      have hok := HO.out k hlt
      rw [HFK.out] at hok
      obtain ⟨p1, p2, d1, d2, q1, q2⟩ := hok
      have hcb := hca.out k hk
      have HA := hid (add_any (costs f k) (g k 2))
      have HS := hid (show costs f (k + 1) = costs f k + g k 2 by show costs f k + (f k).c = _; rw [HFK.out]; rfl)
      dsimp only [tkOf] at p1 p2 d1 d2 q1 q2
      rw [addR_yes hcb.1 (by omega) (by omega)] at HA
      obtain ⟨z, hz⟩ : ∃ z, costs f k = z := ⟨_, rfl⟩
      rw [hz] at HA HS hcb ⊢
      clear hz
      have B2 := B1.alloc B1.size (Obj.cells #[Value.int .i64 (g k 0), Value.int .i64 (g k 1), Value.int .i64 (g k 2), Value.int .i64 (g k 3), Value.int .i64 (g k 4), Value.int .i64 (g k 5), Value.int .i64 (g k 6), Value.int .i64 (g k 7), Value.int .i64 (g k 8), Value.int .i64 (g k 9), Value.int .i64 (g k 10)] 24)
      go_wp2_with (go_at_call 29; refine (HA.out _).mono ?_; rintro e w1 ⟨rfl, rfl⟩)
      go_roundw
      case rel => exact ⟨k + 1, by omega, by go_num, by rw [HS.out], B2⟩
      case measure => simp [intOf]; omega
    · obtain rfl : k = n := by omega
      have t0 : decide ((k : Int) < (k : Int)) = false := by simp
      have hc0 := (hca.out k (Nat.le_refl _)).1
      go_wp2
      go_loopw [6] (fun v wr => ∃ x : Int, v = .int .i64 x ∧ 0 ≤ x ∧ Hid (busyF most f k x = R) ∧ Below w.heap.size w wr) (fun v _ => (most + 1 - intOf v).toNat)
      case atStart => exact ⟨_, rfl, hc0, HR, B1⟩
      case round =>
        obtain ⟨x, rfl, hx0, HX, B3⟩ := hrel
        by_cases hle : x ≤ most
        · have t1 : decide (x ≤ most) = true := by simpa using hle
          have hcb := hid (fun (j : Nat) (hj : j ≤ k) => comes_bound (fun i hi => HO.out i (by omega) : ∀ i, i < j → OkK (f i)) hx0 (by omega))
          go_wp2
          go_loopw [11, 47] (fun v i wr => ∃ j : Nat, j ≤ k ∧ i = .int .i64 j ∧ v = .int .i64 (comes x f j) ∧ Below w.heap.size w wr) (fun _ i _ => k - (intOf i).toNat)
          case atStart => exact ⟨0, Nat.zero_le _, rfl, rfl, B3⟩
          case round =>
            obtain ⟨j, hj, rfl, rfl, B4⟩ := hrel
            by_cases hlt2 : j < k
            · have t2 : decide ((j : Int) < (k : Int)) = true := by simp; omega
              obtain ⟨b, o, rfl, hbl⟩ := hT.form hlt2
              obtain ⟨⟨c0, c1, c2, c3⟩, ⟨c4, c5, c6, c7⟩, c8, c9, c10⟩ := (hT.below B4).at_ hlt2
              have hok := HO.out j hlt2
              rw [HFK.out] at hok
              have hjb := jobsK_bound hok hx0
              obtain ⟨p1, p2, d1, d2, q1, q2⟩ := hok
              have hcj := hcb.out j hj
              have HS := hid (show comes x f (j + 1) = comes x f j + (x + g j 0 - 1) / g j 0 * g j 2 by show comes x f j + (x + (f j).p - 1) / (f j).p * (f j).c = _; rw [HFK.out]; rfl)
              have HU := hid (up_any x (g j 0))
              dsimp only [tkOf] at p1 p2 d1 d2 q1 q2 hjb
              rw [upR_yes hx0 (by omega) p1 (by omega)] at HU
              obtain ⟨q, hq⟩ : ∃ q, (x + g j 0 - 1) / g j 0 = q := ⟨_, rfl⟩
              rw [hq] at HU HS hjb
              clear hq
              have HM := hid (mul_any q (g j 2))
              rw [mulR_yes hjb.1 (by omega) (by omega) (by omega) (by omega)] at HM
              obtain ⟨r, hr⟩ : ∃ r, q * g j 2 = r := ⟨_, rfl⟩
              rw [hr] at HM HS hjb
              clear hr
              have HA := hid (add_any (comes x f j) r)
              rw [addR_yes hcj.1 hjb.2.2.1 (by omega)] at HA
              obtain ⟨z, hz⟩ : ∃ z, comes x f j = z := ⟨_, rfl⟩
              rw [hz] at HA HS hcj ⊢
              clear hz
              have B5 := B4.alloc B4.size (Obj.cells #[Value.int .i64 (g j 0), Value.int .i64 (g j 1), Value.int .i64 (g j 2), Value.int .i64 (g j 3), Value.int .i64 (g j 4), Value.int .i64 (g j 5), Value.int .i64 (g j 6), Value.int .i64 (g j 7), Value.int .i64 (g j 8), Value.int .i64 (g j 9), Value.int .i64 (g j 10)] 24)
              go_wp2_with fail
              refine (HU.out _).mono ?_
              rintro e w1 ⟨rfl, rfl⟩
              go_wp2_with fail
              refine (HM.out _).mono ?_
              rintro e w1 ⟨rfl, rfl⟩
              go_wp2_with fail
              refine (HA.out _).mono ?_
              rintro e w1 ⟨rfl, rfl⟩
              go_wp2
              go_roundw
              case rel => exact ⟨j + 1, by omega, by go_num, by rw [HS.out], B5⟩
              case measure => simp [intOf]; omega
            · obtain rfl : j = k := by omega
              have t2 : decide ((j : Int) < (j : Int)) = false := by simp
              have hcj := hcb.out j (Nat.le_refl _)
              by_cases hge : comes x f j ≤ x
              · have t3 : decide (comes x f j ≤ x) = true := by simpa using hge
                have HE := hid (busyF_some hle hge)
                go_wp2
                go_ret2
                exact ⟨by rw [← HX.out, HE.out]; rfl, B4⟩
              · have t3 : decide (comes x f j ≤ x) = false := by simpa using hge
                have HE := hid (busyF_on hle (Int.lt_of_not_ge hge))
                have HX2 : Hid (busyF most f j (comes x f j) = R) := by show _ = _; rw [← HE.out]; exact HX.out
                clear HE HX HR
                obtain ⟨z, hz⟩ : ∃ z, comes x f j = z := ⟨_, rfl⟩
                rw [hz] at hge t3 hcj HX2 ⊢
                clear hz
                go_wp2
                go_roundw
                case rel => exact ⟨z, rfl, hcj.1, HX2, B4⟩
                case measure => simp [intOf]; omega
        · have t1 : decide (x ≤ most) = false := by simpa using hle
          have HE := hid (busyF_over (f := f) (n := k) (Int.lt_of_not_ge hle))
          go_wp2
          go_ret2
          exact ⟨by rw [← HX.out, HE.out]; rfl, B3⟩
theorem up_of_quo {x p : Int} (hp : 1 ≤ p) (hx : 0 ≤ x) : (x / p * p ≤ x) ∧ (x / p * p = x → (x + p - 1) / p = x / p) ∧ (x / p * p < x → (x + p - 1) / p = x / p + 1) := by
  have h1 := Int.ediv_mul_add_emod x p
  have h2 := Int.emod_nonneg x (show p ≠ 0 by omega)
  have h3 := Int.emod_lt_of_pos x (show 0 < p by omega)
  refine ⟨by omega, fun h => ?_, fun h => ?_⟩
  · have e : x + p - 1 = (p - 1) + x / p * p := by omega
    rw [e, Int.add_mul_ediv_right _ _ (by omega), Int.ediv_eq_zero_of_lt (by omega) (by omega)]; omega
  · have e : x + p - 1 = (x % p - 1) + (x / p + 1) * p := by rw [Int.add_mul]; omega
    rw [e, Int.add_mul_ediv_right _ _ (by omega), Int.ediv_eq_zero_of_lt (by omega) (by omega)]; omega
set_option maxRecDepth 100000 in
set_option maxHeartbeats 2000000 in
theorem refBusy_any (ao : Option Addr) (n cap : Nat) (g : Nat → Nat → Int) (most : Int) (w : World) (hn : n ≤ 20) (hT : Tasks w ao n g) (hG : ∀ i, i < n → OkK (tkOf (g i))) (hm : most ≤ 65536) :
    Calls Try.prog 13 #[.slice ao n cap, .int .i64 most] w fun e w' => e = .returned (rv (busyR most (fun i => tkOf (g i)) n)) ∧ w = w' := by
  obtain ⟨f, hf⟩ : ∃ f : Nat → TK, f = fun i => tkOf (g i) := ⟨_, rfl⟩
  have HFK := hid (show ∀ k, f k = tkOf (g k) from fun k => by rw [hf])
  have HO : Hid (∀ i, i < n → OkK (f i)) := fun i hi => by rw [HFK.out]; exact hG i hi
  rw [← hf, busyR_F]
  clear hf hG
  have hca := hid (fun (k : Nat) (hk : k ≤ n) => costs_bound (fun i hi => HO.out i (by omega) : ∀ i, i < k → OkK (f i)))
  obtain ⟨R, hR⟩ : ∃ R, busyF most f n (costs f n) = R := ⟨_, rfl⟩
  have HR := hid hR
  rw [hR]
  clear hR
  go_enter Try.func13, Try.ntmps13
  go_wp2
  go_loop [6, 7] (fun v i => ∃ k : Nat, k ≤ n ∧ i = .int .i64 k ∧ v = .int .i64 (costs f k)) (fun _ i => n - (intOf i).toNat)
  case atStart => exact ⟨0, Nat.zero_le _, rfl, rfl⟩
  case round =>
    obtain ⟨k, hk, rfl, rfl⟩ := hrel
    by_cases hlt : k < n
    · obtain ⟨b, o, rfl, hbl⟩ := hT.form hlt
      obtain ⟨⟨c0, c1, c2, c3⟩, ⟨c4, c5, c6, c7⟩, c8, c9, c10⟩ := hT.at_ hlt
      have hok := HO.out k hlt
      rw [HFK.out] at hok
      obtain ⟨p1, p2, d1, d2, q1, q2⟩ := hok
      have hcb := hca.out k hk
      have HS := hid (show costs f (k + 1) = costs f k + g k 2 by show costs f k + (f k).c = _; rw [HFK.out]; rfl)
      dsimp only [tkOf] at p1 p2 d1 d2 q1 q2
      obtain ⟨z, hz⟩ : ∃ z, costs f k = z := ⟨_, rfl⟩
      rw [hz] at HS hcb ⊢
      clear hz
      go_wp2
      go_round
      case rel => exact ⟨k + 1, by omega, by go_num, by rw [HS.out]⟩
      case measure => simp [intOf]; omega
    · obtain rfl : k = n := by omega
      have t0 : decide ((k : Int) < (k : Int)) = false := by simp
      have hc0 := (hca.out k (Nat.le_refl _)).1
      go_wp2
      go_loop [6] (fun v => ∃ x : Int, v = .int .i64 x ∧ 0 ≤ x ∧ Hid (busyF most f k x = R)) (fun v => (most + 1 - intOf v).toNat)
      case atStart => exact ⟨_, rfl, hc0, HR⟩
      case round =>
        obtain ⟨x, rfl, hx0, HX⟩ := hrel
        by_cases hle : x ≤ most
        · have t1 : decide (x ≤ most) = true := by simpa using hle
          have hcb := hid (fun (j : Nat) (hj : j ≤ k) => comes_bound (fun i hi => HO.out i (by omega) : ∀ i, i < j → OkK (f i)) hx0 (by omega))
          go_wp2
          go_loop [8, 9] (fun v i => ∃ j : Nat, j ≤ k ∧ i = .int .i64 j ∧ v = .int .i64 (comes x f j)) (fun _ i => k - (intOf i).toNat)
          case atStart => exact ⟨0, Nat.zero_le _, rfl, rfl⟩
          case round =>
            obtain ⟨j, hj, rfl, rfl⟩ := hrel
            by_cases hlt2 : j < k
            · have t2 : decide ((j : Int) < (k : Int)) = true := by simp; omega
              obtain ⟨b, o, rfl, hbl⟩ := hT.form hlt2
              obtain ⟨⟨c0, c1, c2, c3⟩, ⟨c4, c5, c6, c7⟩, c8, c9, c10⟩ := hT.at_ hlt2
              have hok := HO.out j hlt2
              rw [HFK.out] at hok
              have hjb := jobsK_bound hok hx0
              obtain ⟨p1, p2, d1, d2, q1, q2⟩ := hok
              have hcj := hcb.out j hj
              have HS := hid (show comes x f (j + 1) = comes x f j + (x + g j 0 - 1) / g j 0 * g j 2 by show comes x f j + (x + (f j).p - 1) / (f j).p * (f j).c = _; rw [HFK.out]; rfl)
              dsimp only [tkOf] at p1 p2 d1 d2 q1 q2 hjb
              obtain ⟨hu1, hu2, hu3⟩ := up_of_quo p1 hx0
              have hq0 : 0 ≤ x / g j 0 := Int.ediv_nonneg hx0 (by omega)
              have hq1 : x / g j 0 ≤ x := Int.ediv_le_self _ hx0
              have hqp : 0 ≤ x / g j 0 * g j 0 := Int.mul_nonneg hq0 (by omega)
              obtain ⟨z, hz⟩ : ∃ z, comes x f j = z := ⟨_, rfl⟩
              rw [hz] at HS hcj ⊢
              clear hz
              by_cases he : x / g j 0 * g j 0 = x
              · rw [hu2 he] at HS hjb
                have t3 : decide (x / g j 0 * g j 0 < x) = false := by simp; omega
                clear hu1 hu2 hu3
                obtain ⟨q, hq⟩ : ∃ q, x / g j 0 = q := ⟨_, rfl⟩
                rw [hq] at HS hjb hq0 hq1 hqp t3 he
                obtain ⟨r, hr⟩ : ∃ r, q * g j 2 = r := ⟨_, rfl⟩
                rw [hr] at HS hjb
                go_wp2
                go_round
                case rel => exact ⟨j + 1, by omega, by go_num, by rw [HS.out]⟩
                case measure => simp [intOf]; omega
              · have hlt3 : x / g j 0 * g j 0 < x := by omega
                rw [hu3 hlt3] at HS hjb
                have t3 : decide (x / g j 0 * g j 0 < x) = true := by simpa using hlt3
                clear hu1 hu2 hu3 he
                obtain ⟨q, hq⟩ : ∃ q, x / g j 0 = q := ⟨_, rfl⟩
                rw [hq] at HS hjb hq0 hq1 hqp t3 hlt3
                obtain ⟨r, hr⟩ : ∃ r, (q + 1) * g j 2 = r := ⟨_, rfl⟩
                rw [hr] at HS hjb
                obtain ⟨y, hy⟩ : ∃ y, q * g j 0 = y := ⟨_, rfl⟩
                rw [hy] at hqp t3 hlt3
                go_wp2
                go_round
                case rel => exact ⟨j + 1, by omega, by go_num, by rw [HS.out]⟩
                case measure => simp [intOf]; omega
            · obtain rfl : j = k := by omega
              have t2 : decide ((j : Int) < (j : Int)) = false := by simp
              have hcj := hcb.out j (Nat.le_refl _)
              by_cases hge : comes x f j ≤ x
              · have t3 : decide (comes x f j ≤ x) = true := by simpa using hge
                have HE := hid (busyF_some hle hge)
                go_wp2
                go_ret2
                exact ⟨by rw [← HX.out, HE.out]; rfl, rfl⟩
              · have t3 : decide (comes x f j ≤ x) = false := by simpa using hge
                have HE := hid (busyF_on hle (Int.lt_of_not_ge hge))
                have HX2 : Hid (busyF most f j (comes x f j) = R) := by show _ = _; rw [← HE.out]; exact HX.out
                clear HE HX HR
                obtain ⟨z, hz⟩ : ∃ z, comes x f j = z := ⟨_, rfl⟩
                rw [hz] at hge t3 hcj HX2 ⊢
                clear hz
                go_wp2
                go_round
                case rel => exact ⟨z, rfl, hcj.1, HX2⟩
                case measure => simp [intOf]; omega
        · have t1 : decide (x ≤ most) = false := by simpa using hle
          have HE := hid (busyF_over (f := f) (n := k) (Int.lt_of_not_ge hle))
          go_wp2
          go_ret2
          exact ⟨by rw [← HX.out, HE.out]; rfl, rfl⟩
end Go.Proofs.Ytnpbogamoanbiaa
