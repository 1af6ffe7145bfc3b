/-
  Contracts of the package patch: how many words are the same from two places on; the longest piece.
-/
import Derived.Test.YtgelgpcpllmnkaaRow
namespace Go.Proofs.Ytgelgpcpllmnkaa
open Go.RowKit
/-- How many words are the same from two places on. -/
def sameF (a b : Nat → Int) (la lb i k : Nat) : Nat → Nat → Nat
  | 0, n => n
  | f + 1, n => if i + n < la ∧ k + n < lb ∧ a (i + n) = b (k + n) then sameF a b la lb i k f (n + 1) else n
theorem sameF_stop {a b : Nat → Int} {la lb i k : Nat} (f n : Nat) (h : ¬ (i + n < la ∧ k + n < lb ∧ a (i + n) = b (k + n))) : sameF a b la lb i k f n = n := by
  cases f with
  | zero => rfl
  | succ f => exact if_neg h
theorem sameF_on {a b : Nat → Int} {la lb i k : Nat} (f n : Nat) (h : i + n < la ∧ k + n < lb ∧ a (i + n) = b (k + n)) : sameF a b la lb i k (f + 1) n = sameF a b la lb i k f (n + 1) := if_pos h
theorem sameF_bound {a b : Nat → Int} {la lb i k : Nat} : ∀ f n, i + n ≤ la ∨ n = 0 → sameF a b la lb i k f n ≤ la ∨ sameF a b la lb i k f n = 0 := by
  intro f
  induction f with
  | zero => intro n h; rcases h with h | h; exact .inl (by show n ≤ la; omega); exact .inr h
  | succ f ih =>
    intro n h
    show (if _ then _ else _ : Nat) ≤ la ∨ (if _ then _ else _ : Nat) = 0
    split
    · rename_i hc
      exact ih (n + 1) (.inl (by omega))
    · rcases h with h | h
      · exact .inl (by omega)
      · exact .inr h
/-- The longest piece that is there from a place on, the first of the same. -/
def longF (a b : Nat → Int) (la lb k : Nat) : Nat → Nat × Nat
  | 0 => (0, 0)
  | i + 1 => if (longF a b la lb k i).2 < sameF a b la lb i k la 0 then (i, sameF a b la lb i k la 0) else longF a b la lb k i
set_option maxHeartbeats 1000000 in
theorem same_any (ao bo : Option Addr) (la lb ca cb : Nat) (a b : Nat → Int) (i k : Nat) (w : World) (ha : Row w ao la (fun j => .int .u32 (a j))) (hb : Row w bo lb (fun j => .int .u32 (b j))) (hla : la ≤ 5000) (hlb : lb ≤ 5000) (hi : i ≤ 5000) (hk : k ≤ 5000) :
    Calls Try.prog 65 #[.slice ao la ca, .slice bo lb cb, .int .i64 i, .int .i64 k] w fun e w' => e = .returned (.int .i64 (sameF a b la lb i k la 0 : Nat)) ∧ Below w.heap.size w w' := by
  go_enter Try.func65, Try.ntmps65
  go_wp2
  go_loopw [9] (fun n wr => ∃ m : Nat, m ≤ la ∧ n = .int .i64 m ∧ Hid (sameF a b la lb i k la 0 = sameF a b la lb i k (la - m) m) ∧ Below w.heap.size w wr) (fun n _ => la - (intOf n).toNat)
  case atStart => exact ⟨0, by omega, rfl, rfl, Below.refl _ _⟩
  case round =>
    obtain ⟨m, hm, rfl, HS, hbr⟩ := hrel
    by_cases h1 : i + m < la
    · have d1 : decide ((i : Int) + (m : Int) < (la : Int)) = true := by simp; omega
      obtain ⟨pb, po, rfl, hc0⟩ := (ha.below hbr) (i + m) h1
      have hc : wr.cell? ⟨pb, po + (i + m), none⟩ = some (.int .u32 (a (i + m))) := hc0
      have ti : ((i : Int) + (m : Int)).toNat = i + m := by omega
      clear hc0
      by_cases h2 : k + m < lb
      · have d2 : decide ((k : Int) + (m : Int) < (lb : Int)) = true := by simp; omega
        obtain ⟨qb, qo, rfl, gc0⟩ := (hb.below hbr) (k + m) h2
        have gc : wr.cell? ⟨qb, qo + (k + m), none⟩ = some (.int .u32 (b (k + m))) := gc0
        have tk : ((k : Int) + (m : Int)).toNat = k + m := by omega
        clear gc0
        cases h3 : (a (i + m) == b (k + m))
        · have HE : Hid (sameF a b la lb i k la 0 = m) := by
            show _ = _
            rw [HS.out]
            exact sameF_stop _ _ fun h => by rw [h.2.2] at h3; simp at h3
          clear HS
          go_wp2
          go_quiet (fail)
          go_wp2
          go_ret
          exact ⟨by rw [HE.out]; rfl, hbr.trans ⟨rfl, rfl, rfl, Nat.le_refl _, fun _ _ => rfl⟩⟩
        · have HE : Hid (sameF a b la lb i k la 0 = sameF a b la lb i k (la - (m + 1)) (m + 1)) := by
            show _ = _
            rw [HS.out, show la - m = (la - (m + 1)) + 1 by omega]
            exact sameF_on _ _ ⟨h1, h2, by simpa using h3⟩
          clear HS
          go_wp2
          go_quiet (fail)
          go_wp2
          go_roundw
          case rel => exact ⟨m + 1, by omega, by go_num, HE, hbr.trans ⟨rfl, rfl, rfl, Nat.le_refl _, fun _ _ => rfl⟩⟩
          case measure => simp [intOf]; omega
      · have d2 : decide ((k : Int) + (m : Int) < (lb : Int)) = false := by simp; omega
        have HE : Hid (sameF a b la lb i k la 0 = m) := by
          show _ = _
          rw [HS.out]
          exact sameF_stop _ _ fun h => h2 h.2.1
        clear HS
        go_wp2
        go_quiet (fail)
        go_wp2
        go_ret
        exact ⟨by rw [HE.out]; rfl, hbr.trans ⟨rfl, rfl, rfl, Nat.le_refl _, fun _ _ => rfl⟩⟩
    · have d1 : decide ((i : Int) + (m : Int) < (la : Int)) = false := by simp; omega
      have HE : Hid (sameF a b la lb i k la 0 = m) := by
        show _ = _
        rw [HS.out]
        exact sameF_stop _ _ fun h => h1 h.1
      clear HS
      go_wp2
      go_quiet (fail)
      go_wp2
      go_ret
      exact ⟨by rw [HE.out]; rfl, hbr.trans ⟨rfl, rfl, rfl, Nat.le_refl _, fun _ _ => rfl⟩⟩
@[go_sem] def rvN (r : Nat × Nat) : Value := .tuple #[.int .i64 r.1, .int .i64 r.2]
set_option maxHeartbeats 1000000 in
theorem longest_any (ao bo : Option Addr) (la lb ca cb : Nat) (a b : Nat → Int) (k : Nat) (w : World) (ha : Row w ao la (fun j => .int .u32 (a j))) (hb : Row w bo lb (fun j => .int .u32 (b j))) (hla : la ≤ 5000) (hlb : lb ≤ 5000) (hk : k ≤ 5000) :
    Calls Try.prog 57 #[.slice ao la ca, .slice bo lb cb, .int .i64 k] w fun e w' => e = .returned (rvN (longF a b la lb k la)) ∧ Below w.heap.size w w' := by
  have HC : Hid (∀ i W, i ≤ 5000 → Below w.heap.size w W → Calls Try.prog 65 #[.slice ao la ca, .slice bo lb cb, .int .i64 (i : Nat), .int .i64 k] W fun e w' => e = .returned (.int .i64 (sameF a b la lb i k la 0 : Nat)) ∧ Below W.heap.size W w') := fun i W hi hW => same_any ao bo la lb ca cb a b i k W (ha.below hW) (hb.below hW) hla hlb hi hk
  clear ha hb
  go_enter Try.func57, Try.ntmps57
  go_wp2
  go_loopw [8, 9, 10, 11, 14] (fun fr mn _ _ ix wr => ∃ i : Nat, i ≤ la ∧ ix = .int .i64 i ∧ fr = .int .i64 (longF a b la lb k i).1 ∧ mn = .int .i64 (longF a b la lb k i).2 ∧ Below w.heap.size w wr) (fun _ _ _ _ ix _ => la - (intOf ix).toNat)
  case atStart => exact ⟨0, by omega, rfl, rfl, rfl, Below.refl _ _⟩
  case round =>
    obtain ⟨i, hi, rfl, rfl, rfl, hbr⟩ := hrel
    by_cases hlt : i < la
    · have HCi := hid (HC.out i wr (by omega) hbr)
      have HL : Hid (longF a b la lb k (i + 1) = if (longF a b la lb k i).2 < sameF a b la lb i k la 0 then (i, sameF a b la lb i k la 0) else longF a b la lb k i) := rfl
      obtain ⟨⟨f, m⟩, hfm⟩ : ∃ y, longF a b la lb k i = y := ⟨_, rfl⟩
      rw [hfm] at HL ⊢
      generalize sameF a b la lb i k la 0 = s at HCi HL
      by_cases hs : m < s
      · have d : decide ((m : Int) < (s : Int)) = true := by simp; omega
        have HL2 : Hid (longF a b la lb k (i + 1) = (i, s)) := by show _ = _; rw [HL.out]; exact if_pos hs
        clear HL
        go_wp2_with (go_at_call 65; refine HCi.out.mono ?_; rintro e w1 ⟨rfl, hb1⟩)
        go_roundw
        case rel => exact ⟨i + 1, by omega, by go_num, by rw [HL2.out], by rw [HL2.out], hbr.trans (hb1.mono hbr.size)⟩
        case measure => simp [intOf]; omega
      · have d : decide ((m : Int) < (s : Int)) = false := by simp; omega
        have HL2 : Hid (longF a b la lb k (i + 1) = (f, m)) := by show _ = _; rw [HL.out]; exact if_neg hs
        clear HL
        go_wp2_with (go_at_call 65; refine HCi.out.mono ?_; rintro e w1 ⟨rfl, hb1⟩)
        go_roundw
        case rel => exact ⟨i + 1, by omega, by go_num, by rw [HL2.out], by rw [HL2.out], hbr.trans (hb1.mono hbr.size)⟩
        case measure => simp [intOf]; omega
    · obtain rfl : i = la := by omega
      obtain ⟨⟨f, m⟩, hfm⟩ : ∃ y, longF a b i lb k i = y := ⟨_, rfl⟩
      rw [hfm]
      have HF := hid hfm
      go_wp2
      go_ret2
      exact ⟨by rw [HF.out]; rfl, hbr⟩
end Go.Proofs.Ytgelgpcpllmnkaa
