/-
  The plain laws of a set's part of all time: what Round and Exact find.
-/
import Derived.Test.YtijnpkbijljnlaaDoorLoadAlive
namespace Go.Proofs.YtijnpkbijljnlaaDoor
theorem lcm_form {a b : Int} (ha : 0 < a) (hb : 0 < b) : a / ((Int.gcd a b : Nat) : Int) * b = ((Int.lcm a b : Nat) : Int) := by
  have h1 := Int.gcd_mul_lcm a b
  have h2 : ((Int.gcd a b : Nat) : Int) * ((Int.lcm a b : Nat) : Int) = a * b := by
    have : (((Int.gcd a b * Int.lcm a b : Nat)) : Int) = ((a * b).natAbs : Nat) := by rw [h1, Int.natAbs_mul]
    rw [Int.natCast_mul] at this
    rw [this, Int.natAbs_of_nonneg (Int.mul_nonneg (by omega) (by omega))]
  have hg : 0 < ((Int.gcd a b : Nat) : Int) := by
    have := Int.gcd_pos_of_ne_zero_left b (show a ≠ 0 by omega)
    omega
  have h3 := Int.ediv_mul_cancel (Int.gcd_dvd_left a b)
  have : ((Int.gcd a b : Nat) : Int) * (a / ((Int.gcd a b : Nat) : Int) * b) = ((Int.gcd a b : Nat) : Int) * ((Int.lcm a b : Nat) : Int) := by
    rw [h2, ← Int.mul_assoc, Int.mul_comm _ (a / _), h3]
  exact Int.eq_of_mul_eq_mul_left (by omega) this
theorem multR_lcm {a b : Int} (h : (multR a b).2 = true) : a ∣ (multR a b).1 ∧ b ∣ (multR a b).1 ∧ ∀ d, a ∣ d → b ∣ d → (multR a b).1 ∣ d := by
  obtain ⟨h1, _, h2, _, _, _, h3⟩ := multR_pos h
  rw [h3, lcm_form (by omega) (by omega)]
  exact ⟨Int.dvd_lcm_left _ _, Int.dvd_lcm_right _ _, fun d => Int.coe_lcm_dvd⟩
/-- What the round of a list is. -/
theorem round_law (f : Nat → Int) : ∀ (l : List Nat) (acc m : Int), 1 ≤ acc → acc ≤ 1099511627776 → roundF f acc l = some m → acc ∣ m ∧ (∀ i ∈ l, f i ∣ m ∧ 1 ≤ f i) ∧ (∀ d, acc ∣ d → (∀ i ∈ l, f i ∣ d) → m ∣ d) ∧ 1 ≤ m ∧ m ≤ 1099511627776
  | [], acc, m, h, h', e => by
    simp only [roundF, Option.some.injEq] at e
    subst e
    exact ⟨Int.dvd_refl _, by simp, fun d hd _ => hd, h, h'⟩
  | i :: l, acc, m, h, h', e => by
    rw [roundF] at e
    split at e
    · rename_i hb
      obtain ⟨p1, p2, p3, p4, p5, p6, _⟩ := multR_pos hb
      obtain ⟨d1, d2, d3⟩ := multR_lcm hb
      obtain ⟨a1, a2, a3, a4, a5⟩ := round_law f l _ m p5 p6 e
      refine ⟨Int.dvd_trans d1 a1, fun j hj => ?_, fun d hd hl => a3 d (d3 d hd (hl i (by simp))) fun j hj => hl j (by simp [hj]), a4, a5⟩
      rcases List.mem_cons.1 hj with rfl | hj
      · exact ⟨Int.dvd_trans d2 a1, p3⟩
      · exact a2 j hj
    · cases e
theorem round_least {f : Nat → Int} {l : List Nat} {m : Int} (h : roundF f 1 l = some m) {d : Int} (hd : 2 ≤ d) (hm : m % d = 0) (ha : ∀ i ∈ l, m / d % f i = 0) : False := by
  obtain ⟨_, a2, a3, a4, a5⟩ := round_law f l 1 m (by omega) (by omega) h
  have h1 := a3 (m / d) (Int.one_dvd _) fun i hi => Int.dvd_of_emod_eq_zero (ha i hi)
  have h2 := Int.ediv_mul_cancel (Int.dvd_of_emod_eq_zero hm)
  have h3 : 0 < m / d := by
    rcases (show m / d ≤ 0 ∨ 0 < m / d by omega) with h0 | h0
    · have := Int.mul_nonpos_of_nonpos_of_nonneg h0 (show (0 : Int) ≤ d by omega)
      omega
    · exact h0
  have h4 := Int.le_of_dvd h3 h1
  have h5 : m / d * 2 ≤ m / d * d := Int.mul_le_mul_of_nonneg_left hd (by omega)
  omega
/-- The sum brought to a denominator. -/
def sumN (g : Nat → Nat → Int) (N : Int) (l : List Nat) : Int := (l.map fun i => g i 2 * (N / g i 0)).sum
theorem sumN_cons (g : Nat → Nat → Int) (N : Int) (i : Nat) (l : List Nat) : sumN g N (i :: l) = g i 2 * (N / g i 0) + sumN g N l := by simp [sumN]
theorem sumN_snoc (g : Nat → Nat → Int) (N : Int) (i : Nat) (l : List Nat) : sumN g N (l ++ [i]) = sumN g N l + g i 2 * (N / g i 0) := by simp [sumN]
/-- Two parts together, brought to a denominator. -/
theorem addP_law {an ad bn bd : Int} (h : (addP an ad bn bd).2 = true) (N : Int) (ha : ad ∣ N) (hb : bd ∣ N) :
    1 ≤ (addP an ad bn bd).1.2 ∧ (addP an ad bn bd).1.2 ∣ N ∧ (addP an ad bn bd).1.1 * (N / (addP an ad bn bd).1.2) = an * (N / ad) + bn * (N / bd) ∧ 0 ≤ (addP an ad bn bd).1.1 ∧ Int.gcd (addP an ad bn bd).1.1 (addP an ad bn bd).1.2 = 1 := by
  unfold addP at h ⊢
  split at h
  · rename_i hm
    rw [if_pos hm]
    split at h
    · rename_i hc
      rw [if_pos hc]
      simp only [Bool.and_eq_true] at hc
      obtain ⟨⟨⟨c1, c2⟩, c3⟩, c4⟩ := hc
      obtain ⟨p1, p2, p3, p4, p5, p6, _⟩ := multR_pos hm
      obtain ⟨d1, d2, d3⟩ := multR_lcm hm
      have e1 : (mulR an ((multR ad bd).1 / ad)).1 = an * ((multR ad bd).1 / ad) ∧ inB an = true := by
        unfold mulR at c1 ⊢
        split at c1
        · rename_i hh; rw [if_pos hh]; simp only [Bool.and_eq_true] at hh; exact ⟨rfl, hh.1.1⟩
        · cases c1
      have e2 : (mulR bn ((multR ad bd).1 / bd)).1 = bn * ((multR ad bd).1 / bd) ∧ inB bn = true := by
        unfold mulR at c2 ⊢
        split at c2
        · rename_i hh; rw [if_pos hh]; simp only [Bool.and_eq_true] at hh; exact ⟨rfl, hh.1.1⟩
        · cases c2
      have e3 : (addR (mulR an ((multR ad bd).1 / ad)).1 (mulR bn ((multR ad bd).1 / bd)).1).1 = an * ((multR ad bd).1 / ad) + bn * ((multR ad bd).1 / bd) := by
        rw [e1.1, e2.1] at c3 ⊢
        unfold addR at c3 ⊢
        split at c3
        · rename_i hh; rw [if_pos hh]
        · cases c3
      rw [e3] at c4 ⊢
      obtain ⟨D, hD⟩ : ∃ D, D = (multR ad bd).1 := ⟨_, rfl⟩
      rw [← hD] at p5 d1 d2 d3 c4 ⊢
      clear e3 c3 c1 c2 hm h p6 hD
      obtain ⟨S, hS⟩ : ∃ S, S = an * (D / ad) + bn * (D / bd) := ⟨_, rfl⟩
      rw [← hS] at c4 ⊢
      have hc : (comR S D).1 = ((Int.gcd S D : Nat) : Int) ∧ inB S = true := by
        unfold comR at c4 ⊢
        split at c4
        · rename_i hh; rw [if_pos hh]; simp only [Bool.and_eq_true] at hh; exact ⟨rfl, hh.1⟩
        · cases c4
      rw [hc.1]
      have hS0 := (inB_yes hc.2).1
      have hg : 0 < ((Int.gcd S D : Nat) : Int) := by
        have := Int.gcd_pos_of_ne_zero_right S (show D ≠ 0 by omega)
        omega
      obtain ⟨s, hs⟩ := Int.gcd_dvd_left S D
      obtain ⟨t, ht⟩ := Int.gcd_dvd_right S D
      have hN : D ∣ N := d3 N ha hb
      obtain ⟨G, hG⟩ : ∃ G, G = ((Int.gcd S D : Nat) : Int) := ⟨_, rfl⟩
      have hgcd : Int.gcd S D ≠ 0 := by omega
      have hco : Int.gcd s t = 1 := by
        have h1 : Int.gcd (G * s) (G * t) = G.natAbs * Int.gcd s t := Int.gcd_mul_left ..
        rw [hG, ← hs, ← ht, Int.natAbs_natCast] at h1
        have h2 : Int.gcd S D * 1 = Int.gcd S D * Int.gcd s t := by omega
        exact (Nat.eq_of_mul_eq_mul_left (by omega) h2).symm
      rw [← hG] at hg hs ht ⊢
      have f1 : S / G = s := by rw [hs]; exact Int.mul_ediv_cancel_left _ (by omega)
      have f2 : D / G = t := by rw [ht]; exact Int.mul_ediv_cancel_left _ (by omega)
      have ht0 : 1 ≤ t := by
        rcases (show t ≤ 0 ∨ 1 ≤ t by omega) with h0 | h0
        · have := Int.mul_nonpos_of_nonneg_of_nonpos (show 0 ≤ G by omega) h0
          omega
        · exact h0
      have hs0 : 0 ≤ s := by
        rcases (show s < 0 ∨ 0 ≤ s by omega) with h0 | h0
        · have := Int.mul_neg_of_pos_of_neg hg h0
          omega
        · exact h0
      simp only []
      rw [f1, f2]
      obtain ⟨x, hx⟩ := d1
      obtain ⟨y, hy⟩ := d2
      obtain ⟨M, hM⟩ := hN
      refine ⟨ht0, ⟨G * M, by rw [hM, ht]; ac_rfl⟩, ?_, hs0, hco⟩
      have n1 : N / t = G * M := by rw [hM, ht, show G * t * M = t * (G * M) by ac_rfl]; exact Int.mul_ediv_cancel_left _ (by omega)
      have n2 : N / ad = x * M := by rw [hM, hx, Int.mul_assoc]; exact Int.mul_ediv_cancel_left _ (by omega)
      have n3 : N / bd = y * M := by rw [hM, hy, Int.mul_assoc]; exact Int.mul_ediv_cancel_left _ (by omega)
      have n4 : D / ad = x := by rw [hx]; exact Int.mul_ediv_cancel_left _ (by omega)
      have n5 : D / bd = y := by rw [hy]; exact Int.mul_ediv_cancel_left _ (by omega)
      rw [n4, n5] at hS
      rw [n1, n2, n3, show s * (G * M) = G * s * M by ac_rfl, ← hs, hS, Int.add_mul]
      ac_rfl
    · cases h
  · cases h
/-- Two parts may be put together where all is small. -/
theorem addP_yes {an ad bn bd N k : Int} (h1 : 1 ≤ ad) (h2 : 1 ≤ bd) (hbd : bd ≤ 4096) (hN : 1 ≤ N) (hN2 : N ≤ 16777216) (ha : ad ∣ N) (hb : bd ∣ N) (h0 : 0 ≤ an) (hk : an ≤ k * ad) (_hk0 : 0 ≤ k) (hk2 : k ≤ 32) (hb0 : 0 ≤ bn) (hb1 : bn ≤ bd) :
    (addP an ad bn bd).2 = true ∧ (addP an ad bn bd).1.1 ≤ (k + 1) * (addP an ad bn bd).1.2 := by
  have had := Int.le_of_dvd (by omega) ha
  have hbd' := Int.le_of_dvd (by omega) hb
  have hl := lcm_form (a := ad) (b := bd) (by omega) (by omega)
  have hl1 : ((Int.lcm ad bd : Nat) : Int) ∣ N := Int.coe_lcm_dvd ha hb
  have hl2 := Int.le_of_dvd (by omega) hl1
  have hg : 0 < ((Int.gcd ad bd : Nat) : Int) := by
    have := Int.gcd_pos_of_ne_zero_left bd (show ad ≠ 0 by omega)
    omega
  have hq : ad / ((Int.gcd ad bd : Nat) : Int) ≤ ad := Int.ediv_le_self _ (by omega)
  have hq0 : 0 ≤ ad / ((Int.gcd ad bd : Nat) : Int) := Int.ediv_nonneg (by omega) (by omega)
  have hm : multR ad bd = (((Int.lcm ad bd : Nat) : Int), true) := by
    unfold multR
    rw [inB_mk (by omega) (by omega), inB_mk (by omega) (by omega), show (ad == 0) = false by simp; omega, show (bd == 0) = false by simp; omega]
    simp only [Bool.and_self, Bool.not_false, if_true]
    unfold mulR
    rw [inB_mk hq0 (by omega), inB_mk (by omega) (by omega), hl]
    simp only [Bool.and_self, Bool.true_and]
    rw [if_pos (by simp; omega)]
  have hyes : (addP an ad bn bd).2 = true := by
    unfold addP
    rw [hm]
    simp only [if_true]
    have hlp : 1 ≤ ((Int.lcm ad bd : Nat) : Int) := by
      have := Int.lcm_pos (show ad ≠ 0 by omega) (show bd ≠ 0 by omega)
      omega
    obtain ⟨x, hx⟩ := Int.dvd_lcm_left ad bd
    obtain ⟨y, hy⟩ := Int.dvd_lcm_right ad bd
    obtain ⟨D, hD⟩ : ∃ D, D = ((Int.lcm ad bd : Nat) : Int) := ⟨_, rfl⟩
    rw [← hD] at hl2 hlp hx hy ⊢
    have n4 : D / ad = x := by rw [hx]; exact Int.mul_ediv_cancel_left _ (by omega)
    have n5 : D / bd = y := by rw [hy]; exact Int.mul_ediv_cancel_left _ (by omega)
    have hx0 : 0 ≤ x := by rw [← n4]; exact Int.ediv_nonneg (by omega) (by omega)
    have hy0 : 0 ≤ y := by rw [← n5]; exact Int.ediv_nonneg (by omega) (by omega)
    have hxl : x ≤ D := by rw [← n4]; exact Int.ediv_le_self _ (by omega)
    have hyl : y ≤ D := by rw [← n5]; exact Int.ediv_le_self _ (by omega)
    have m1 : an * x ≤ k * D := by
      have := Int.mul_le_mul_of_nonneg_right hk hx0
      rw [Int.mul_assoc, ← hx] at this; exact this
    have m1' : k * D ≤ 32 * D := Int.mul_le_mul_of_nonneg_right hk2 (by omega)
    have m10 : 0 ≤ an * x := Int.mul_nonneg h0 hx0
    have m2 : bn * y ≤ D := by
      have := Int.mul_le_mul_of_nonneg_right hb1 hy0
      rw [← hy] at this; exact this
    have m20 : 0 ≤ bn * y := Int.mul_nonneg hb0 hy0
    have hk3 : k * ad ≤ 32 * ad := Int.mul_le_mul_of_nonneg_right hk2 (by omega)
    rw [n4, n5]
    have u1 : mulR an x = (an * x, true) := by
      unfold mulR
      rw [inB_mk h0 (by omega), inB_mk hx0 (by omega)]
      simp only [Bool.and_self, Bool.true_and]
      rw [if_pos (by simp; omega)]
    have u2 : mulR bn y = (bn * y, true) := by
      unfold mulR
      rw [inB_mk hb0 (by omega), inB_mk hy0 (by omega)]
      simp only [Bool.and_self, Bool.true_and]
      rw [if_pos (by simp; omega)]
    rw [u1, u2]
    simp only []
    rw [addR_yes m10 m20 (by omega)]
    simp only []
    have u3 : (comR (an * x + bn * y) D).2 = true := by
      unfold comR
      rw [inB_mk (by omega) (by omega), inB_mk (by omega) (by omega)]
      rfl
    rw [u3]
    simp
  refine ⟨hyes, ?_⟩
  obtain ⟨q1, q2, q3, q4, q5⟩ := addP_law hyes N ha hb
  obtain ⟨p, q⟩ : ∃ z, z = (addP an ad bn bd).1 := ⟨_, rfl⟩
  generalize (addP an ad bn bd).1.1 = P at *
  generalize (addP an ad bn bd).1.2 = Q at *
  obtain ⟨u, hu⟩ := q2
  obtain ⟨x, hx⟩ := ha
  obtain ⟨y, hy⟩ := hb
  have n1 : N / Q = u := by rw [hu]; exact Int.mul_ediv_cancel_left _ (by omega)
  have n2 : N / ad = x := by rw [hx]; exact Int.mul_ediv_cancel_left _ (by omega)
  have n3 : N / bd = y := by rw [hy]; exact Int.mul_ediv_cancel_left _ (by omega)
  have hx0 : 0 ≤ x := by rw [← n2]; exact Int.ediv_nonneg (by omega) (by omega)
  have hy0 : 0 ≤ y := by rw [← n3]; exact Int.ediv_nonneg (by omega) (by omega)
  have hu0 : 1 ≤ u := by
    rcases (show u ≤ 0 ∨ 1 ≤ u by omega) with h | h
    · have := Int.mul_nonpos_of_nonneg_of_nonpos (show 0 ≤ Q by omega) h
      omega
    · exact h
  rw [n1, n2, n3] at q3
  have m1 : an * x ≤ k * N := by
    have := Int.mul_le_mul_of_nonneg_right hk hx0
    rw [Int.mul_assoc, ← hx] at this; exact this
  have m2 : bn * y ≤ N := by
    have := Int.mul_le_mul_of_nonneg_right hb1 hy0
    rw [← hy] at this; exact this
  have m3 : P * u ≤ (k + 1) * Q * u := by
    rw [Int.mul_assoc, ← hu, Int.add_mul]
    omega
  exact Int.le_of_mul_le_mul_right m3 (by omega)
/-- The exact part of a list of tasks. -/
theorem exact_law (g : Nat → Nat → Int) (N : Int) (hN : 1 ≤ N) (hN2 : N ≤ 16777216) : ∀ (l : List Nat) (p q k : Int), 1 ≤ q → q ∣ N → 0 ≤ p → p ≤ k * q → 0 ≤ k → k + l.length ≤ 32 → Int.gcd p q = 1 → (∀ i ∈ l, g i 0 ∣ N ∧ 1 ≤ g i 0 ∧ g i 0 ≤ 4096 ∧ 1 ≤ g i 2 ∧ g i 2 ≤ g i 0) →
    ∃ p' q', exactF g (p, q) l = some (p', q') ∧ 1 ≤ q' ∧ q' ∣ N ∧ 0 ≤ p' ∧ Int.gcd p' q' = 1 ∧ p' * (N / q') = p * (N / q) + sumN g N l
  | [], p, q, k, h1, h2, h3, h4, h5, h6, h7, _ => ⟨p, q, rfl, h1, h2, h3, h7, by simp [sumN]⟩
  | i :: l, p, q, k, h1, h2, h3, h4, h5, h6, h7, h8 => by
    obtain ⟨t1, t2, t3, t4, t5⟩ := h8 i (by simp)
    simp only [List.length_cons] at h6
    obtain ⟨y1, y2⟩ := addP_yes (bn := g i 2) h1 t2 t3 hN hN2 h2 t1 h3 h4 h5 (by omega) (by omega) t5
    obtain ⟨z1, z2, z3, z4, z5⟩ := addP_law y1 N h2 t1
    obtain ⟨p', q', e, r1, r2, r3, r4, r5⟩ := exact_law g N hN hN2 l _ _ (k + 1) z1 z2 z4 y2 (by omega) (by omega) z5 fun j hj => h8 j (by simp [hj])
    refine ⟨p', q', ?_, r1, r2, r3, r4, ?_⟩
    · rw [exactF, if_pos y1]; exact e
    · rw [r5, z3, sumN_cons]; omega
/-- All of LoadExact. -/
theorem exact_all {g : Nat → Nat → Int} {l : List Nat} {N : Int} (h : roundF (fun i => g i 0) 1 l = some N) (hN2 : N ≤ 16777216) (hl : l.length ≤ 32) (hO : ∀ i ∈ l, 1 ≤ g i 0 ∧ g i 0 ≤ 4096 ∧ 1 ≤ g i 2 ∧ g i 2 ≤ g i 0) :
    ∃ p q, exactR g l = ((p, q), true) ∧ 1 ≤ q ∧ N % q = 0 ∧ 0 ≤ p ∧ q ≤ N ∧ p * (N / q) = sumN g N l ∧ overR g l = decide (N < sumN g N l) ∧ ∀ d, 2 ≤ d → p % d = 0 → q % d = 0 → False := by
  obtain ⟨_, a2, _, a4, a5⟩ := round_law _ l 1 N (by omega) (by omega) h
  obtain ⟨p, q, e, r1, r2, r3, r4, r5⟩ := exact_law g N a4 hN2 l 0 1 0 (by omega) (Int.one_dvd _) (by omega) (by omega) (by omega) (by omega) (by decide) fun i hi => ⟨(a2 i hi).1, hO i hi⟩
  have hr : exactR g l = ((p, q), true) := by unfold exactR; rw [e]
  have hs : p * (N / q) = sumN g N l := by rw [r5]; omega
  refine ⟨p, q, hr, r1, Int.emod_eq_zero_of_dvd r2, r3, Int.le_of_dvd (by omega) r2, hs, ?_, ?_⟩
  · unfold overR
    rw [hr]
    simp only [Bool.not_true, Bool.false_or]
    obtain ⟨u, hu⟩ := r2
    have n1 : N / q = u := by rw [hu]; exact Int.mul_ediv_cancel_left _ (by omega)
    have hu0 : 1 ≤ u := by
      rcases (show u ≤ 0 ∨ 1 ≤ u by omega) with h | h
      · have := Int.mul_nonpos_of_nonneg_of_nonpos (show 0 ≤ q by omega) h
        omega
      · exact h
    rw [← hs, n1]
    have : q < p ↔ N < p * u := by
      rw [hu]
      constructor
      · intro h; exact Int.mul_lt_mul_of_pos_right h (by omega)
      · intro h; exact Int.lt_of_mul_lt_mul_right h (by omega)
    simp only [this]
  · intro d hd h1 h2
    have := Int.dvd_coe_gcd (Int.dvd_of_emod_eq_zero h1) (Int.dvd_of_emod_eq_zero h2)
    rw [r4] at this
    have := Int.le_of_dvd (by omega) this
    omega
end Go.Proofs.YtijnpkbijljnlaaDoor
