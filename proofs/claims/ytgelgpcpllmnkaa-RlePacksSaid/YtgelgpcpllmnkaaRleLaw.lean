/-
  Plain laws on groups of words: how long they are; what is packed is unpacked as it was.
-/
import Derived.Test.YtgelgpcpllmnkaaRleUnpack
namespace Go.Proofs.Ytgelgpcpllmnkaa
theorem lead_congr {p q : Nat → Bool} (h : ∀ j, p j = q j) : ∀ k n, lead p k n = lead q k n := by
  intro k
  induction k with
  | zero => intro n; rfl
  | succ k ih => intro n; unfold lead; rw [h n, ih]
theorem runF_congr {f g : Nat → Int} {n : Nat} (h : ∀ i, i < n → f i = g i) : runF f n = runF g n := lead_congr (fun j => by
  unfold runP
  by_cases hj : j < n
  · rw [h j hj, h 0 (by omega)]
  · simp [hj]) _ _
theorem plainF_congr {f g : Nat → Int} {n : Nat} (h : ∀ i, i < n → f i = g i) : plainF f n = plainF g n := lead_congr (fun j => by
  unfold plainP
  by_cases hj : j < n
  · rw [runF_congr (f := fun i => f (j + i)) (g := fun i => g (j + i)) fun i hi => h (j + i) (by omega)]
  · simp [hj]) _ _
theorem grpAt_congr {f g : Nat → Int} {n k : Nat} (h : ∀ i, i < n → f i = g i) : grpAt f n k = grpAt g n k := by
  unfold grpAt headN restN
  rw [runF_congr (f := fun j => f (k + j)) (g := fun j => g (k + j)) fun i hi => h (k + i) (by omega), plainF_congr (f := fun j => f (k + j)) (g := fun j => g (k + j)) fun i hi => h (k + i) (by omega)]
theorem wordsN_congr {f g : Nat → Int} {n : Nat} (h : ∀ i, i < n → f i = g i) : ∀ d k, n - k ≤ d → words f (groupsN f n k) = words g (groupsN g n k) := by
  intro d
  induction d with
  | zero => intro k hk; rw [groupsN_end (by omega), groupsN_end (by omega)]; rfl
  | succ d ih =>
    intro k hk
    rcases Nat.lt_or_ge k n with hlt | hge
    · have hp := grpAt_pos (f := f) hlt
      rw [groupsN_on hlt, groupsN_on (f := g) hlt, ← grpAt_congr h]
      have e := ih (k + (grpAt f n k).2.2) (by omega)
      have e2 : gwords f (grpAt f n k) = gwords g (grpAt f n k) := by
        unfold gwords
        rw [hp.2.2.2]
        split
        · rw [h k hlt]
        · rw [List.map_congr_left fun j hj => h (k + j) (by have := List.mem_range.1 hj; omega)]
      unfold words at e ⊢
      rw [List.flatMap_cons, List.flatMap_cons, e, e2]
    · rw [groupsN_end hge, groupsN_end hge]; rfl
theorem packF_congr {f g : Nat → Int} {n : Nat} (h : ∀ i, i < n → f i = g i) : packF f n = packF g n := wordsN_congr h n 0 (by omega)
theorem packL_row (f : Nat → Int) (n : Nat) : packL ((List.range n).map f) = packF f n := by
  unfold packL
  rw [List.length_map, List.length_range]
  exact packF_congr fun i hi => by simp [List.getD, hi]
theorem words_cons (f : Nat → Int) (x : Grp) (l : List Grp) : words f (x :: l) = gwords f x ++ words f l := List.flatMap_cons
theorem gwords_run (f : Nat → Int) (k c : Nat) : gwords f (true, k, c) = [2147483648 + (c : Int), f k] := rfl
theorem gwords_plain (f : Nat → Int) (k c : Nat) : gwords f (false, k, c) = (c : Int) :: (List.range c).map fun j => f (k + j) := rfl
/-- How many words groups take: never more than half as many again, and one. -/
theorem wordsN_len (f : Nat → Int) (n : Nat) : ∀ d k, n - k ≤ d → 2 * (words f (groupsN f n k)).length ≤ 3 * (n - k) + 2 ∧ (k < n → 3 ≤ headN f n k → 2 * (words f (groupsN f n k)).length + 5 ≤ 3 * (n - k) + 2) := by
  intro d
  induction d with
  | zero => intro k hk; rw [groupsN_end (by omega)]; exact ⟨by show 2 * 0 ≤ _; omega, fun h => by omega⟩
  | succ d ih =>
    intro k hk
    rcases Nat.lt_or_ge k n with hlt | hge
    · have hp := grpAt_pos (f := f) hlt
      obtain ⟨i1, i2⟩ := ih (k + (grpAt f n k).2.2) (by omega)
      rw [groupsN_on hlt, words_cons, List.length_append]
      by_cases h3 : headN f n k < 3
      · have hg : grpAt f n k = (false, k, restN f n k) := if_pos h3
        rw [hg] at hp i1 i2 ⊢
        dsimp only at hp i1 i2 ⊢
        rw [gwords_plain, List.length_cons, List.length_map, List.length_range]
        refine ⟨?_, fun _ h => by omega⟩
        rcases Nat.lt_or_ge (k + restN f n k) n with hl | hl
        · have hs := (plainF_spec (fun j => f (k + j)) (n - k)).2
          rw [show plainF (fun j => f (k + j)) (n - k) = restN f n k from rfl] at hs
          unfold plainP at hs
          have e : (fun i => f (k + (restN f n k + i))) = fun j => f (k + restN f n k + j) := funext fun i => by rw [Nat.add_assoc]
          rw [e, show n - k - restN f n k = n - (k + restN f n k) by omega, show runF (fun j => f (k + restN f n k + j)) (n - (k + restN f n k)) = headN f n (k + restN f n k) from rfl] at hs
          rcases Nat.lt_or_ge (headN f n (k + restN f n k)) 3 with h4 | h4
          · have : ¬ restN f n k < 4096 := fun h5 => by simp [h4, h5] at hs; omega
            omega
          · have := i2 hl h4
            omega
        · rw [groupsN_end hl] at i1 ⊢
          show 2 * (_ + 1 + 0) ≤ _
          omega
      · have hg : grpAt f n k = (true, k, headN f n k) := if_neg h3
        rw [hg] at hp i1 i2 ⊢
        dsimp only at hp i1 i2 ⊢
        rw [gwords_run]
        simp only [List.length_cons, List.length_nil]
        exact ⟨by omega, fun _ _ => by omega⟩
    · rw [groupsN_end hge]; exact ⟨by show 2 * 0 ≤ _; omega, fun h => by omega⟩
theorem packF_short (f : Nat → Int) (n : Nat) : (packF f n).length ≤ n + n / 2 + 1 := by
  have := (wordsN_len f n n 0 (by omega)).1
  unfold packF
  omega
/-- Words that are all the same. -/
theorem same_len (f : Nat → Int) (x : Int) (n : Nat) (hx : ∀ i, i < n → f i = x) : ∀ d k, n - k ≤ d → (n - k) % 4096 = 0 ∨ 3 ≤ (n - k) % 4096 → (words f (groupsN f n k)).length = 2 * ((n - k + 4095) / 4096) := by
  intro d
  induction d with
  | zero => intro k hk _; rw [groupsN_end (by omega), show n - k = 0 by omega]; rfl
  | succ d ih =>
    intro k hk hmod
    rcases Nat.lt_or_ge k n with hlt | hge
    · have hh : headN f n k = min (n - k) 4096 := by
        refine runF_eq (fun j hj => ?_) ?_ (by omega)
        · have h1 : k + j < n := by omega
          simp only [runP, hx (k + j) h1, hx (k + 0) (by omega)]
          simp; omega
        · simp [runP]; omega
      have hg : grpAt f n k = (true, k, headN f n k) := if_neg (by omega)
      have := ih (k + headN f n k) (by omega) (by omega)
      rw [groupsN_on hlt, words_cons, List.length_append, hg, gwords_run]
      simp only [List.length_cons, List.length_nil]
      rw [this]
      omega
    · rw [groupsN_end hge, show n - k = 0 by omega]; rfl
theorem packF_same (f : Nat → Int) (x : Int) (n : Nat) (hx : ∀ i, i < n → f i = x) (hm : n % 4096 = 0 ∨ 3 ≤ n % 4096) : (packF f n).length = 2 * ((n + 4095) / 4096) := same_len f x n hx n 0 (by omega) hm
/-- What is packed is told again, just if so many words are let. -/
theorem open_pack (f : Nat → Int) (n most : Nat) (pf : Nat → Int) (pn : Nat) : ∀ d k K m, n - k ≤ d → k ≤ n → k ≤ most → pn ≤ K + m → pn = K + (words f (groupsN f n k)).length → (∀ i, i < (words f (groupsN f n k)).length → pf (K + i) = (words f (groupsN f n k)).getD i 0) →
    openF pf pn most m K ((List.range k).map f) = if n ≤ most then some ((List.range n).map f) else none := by
  intro d
  induction d with
  | zero =>
    intro k K m hk hkn hkm hm hpn hpf
    obtain rfl : k = n := by omega
    rw [groupsN_end (Nat.le_refl _)] at hpn
    rw [openF_end _ _ (by rw [hpn]; exact Nat.le_refl _), if_pos hkm]
  | succ d ih =>
    intro k K m hk hkn hkm hm hpn hpf
    rcases Nat.lt_or_ge k n with hlt | hge
    · have hp := grpAt_pos (f := f) hlt
      rw [groupsN_on hlt, words_cons] at hpn hpf
      rw [List.length_append] at hpn hpf
      have hnext : ∀ c L, c = (grpAt f n k).2.2 → L = (gwords f (grpAt f n k)).length → k + c ≤ most → 0 < m → openF pf pn most (m - 1) (K + L) ((List.range (k + c)).map f) = if n ≤ most then some ((List.range n).map f) else none := by
        intro c L hc hL hcm hm0
        subst hc hL
        refine ih _ _ _ (by omega) (by omega) hcm ?_ (by omega) fun i hi => ?_
        · have : 0 < (gwords f (grpAt f n k)).length := by unfold gwords; split <;> simp
          omega
        · have := hpf ((gwords f (grpAt f n k)).length + i) (by omega)
          rw [← Nat.add_assoc] at this
          rw [this, List.getD, List.getD, List.getElem?_append_right (by omega), Nat.add_sub_cancel_left]
      have hm0 : 0 < m := by
        have : 0 < (gwords f (grpAt f n k)).length := by unfold gwords; split <;> simp
        omega
      have hKp : K < pn := by
        have : 0 < (gwords f (grpAt f n k)).length := by unfold gwords; split <;> simp
        omega
      have hdrop : ∀ i, i < (gwords f (grpAt f n k)).length → pf (K + i) = (gwords f (grpAt f n k)).getD i 0 := fun i hi => by
        rw [hpf i (by omega), List.getD, List.getD, List.getElem?_append_left hi]
      clear hpf ih
      by_cases h3 : headN f n k < 3
      · have hg : grpAt f n k = (false, k, restN f n k) := if_pos h3
        rw [hg] at hp hnext hdrop hpn
        simp only at hp
        rw [gwords_plain] at hnext hdrop hpn
        simp only [List.length_cons, List.length_map, List.length_range] at hnext hdrop hpn
        have e0 : pf K = ((restN f n k : Nat) : Int) := by have := hdrop 0 (by omega); simpa using this
        have eh : headOf (pf K) = restN f n k := by rw [e0]; unfold headOf; omega
        have es : ¬ 2147483648 ≤ pf K := by rw [e0]; omega
        have ehas : has pf K = restN f n k := by unfold has; rw [if_neg es, eh]
        have etold : told pf K = (List.range (restN f n k)).map fun j => f (k + j) := by
          unfold told
          rw [if_neg es, eh]
          refine List.map_congr_left fun j hj => ?_
          have hj := List.mem_range.1 hj
          have := hdrop (j + 1) (by omega)
          rw [show K + 1 + j = K + (j + 1) by omega, this]
          simp [List.getD, hj]
        by_cases hb : most < k + restN f n k
        · rw [openF_bad (by omega) hKp (.inr (.inr (.inr (by rw [eh]; simp; omega)))), if_neg (by omega)]
        · rw [openF_on (by omega) hKp (by unfold badAt; rw [eh, ehas]; simp; omega), ehas, etold]
          have := hnext (restN f n k) (restN f n k + 1) rfl rfl (by omega) hm0
          rw [List.range_add, List.map_append, List.map_map] at this
          rw [show K + 1 + restN f n k = K + (restN f n k + 1) by omega]
          exact this
      · have hg : grpAt f n k = (true, k, headN f n k) := if_neg h3
        rw [hg] at hp hnext hdrop hpn
        simp only at hp
        rw [gwords_run] at hnext hdrop hpn
        simp only [List.length_cons, List.length_nil] at hnext hdrop hpn
        have e0 : pf K = 2147483648 + ((headN f n k : Nat) : Int) := by have := hdrop 0 (by omega); simpa using this
        have e1 : pf (K + 1) = f k := by have := hdrop 1 (by omega); simpa using this
        have eh : headOf (pf K) = headN f n k := by rw [e0]; unfold headOf; omega
        have es : 2147483648 ≤ pf K := by rw [e0]; omega
        have ehas : has pf K = 1 := if_pos es
        have etold : told pf K = (List.range (headN f n k)).map fun j => f (k + j) := by
          unfold told
          rw [if_pos es, eh, e1]
          refine List.ext_getElem (by simp) fun j h1 h2 => ?_
          have := (runF_spec (fun j => f (k + j)) (n - k)).1 j (by simpa [headN] using h1)
          simp [runP] at this
          simp [this]
        by_cases hb : most < k + headN f n k
        · rw [openF_bad (by omega) hKp (.inr (.inr (.inr (by rw [eh]; simp; omega)))), if_neg (by omega)]
        · rw [openF_on (by omega) hKp (by unfold badAt; rw [eh, ehas]; simp; omega), ehas, etold]
          have := hnext (headN f n k) 2 rfl rfl (by omega) hm0
          rw [List.range_add, List.map_append, List.map_map] at this
          exact this
    · obtain rfl : k = n := by omega
      rw [groupsN_end (Nat.le_refl _)] at hpn
      rw [openF_end _ _ (by rw [hpn]; exact Nat.le_refl _), if_pos hkm]
theorem range_getD (l : List Int) : (List.range l.length).map (fun i => l.getD i 0) = l := by
  refine List.ext_getElem (by simp) fun j h1 h2 => ?_
  simp [List.getD, h2]
theorem unpack_pack (f : Nat → Int) (n most : Nat) : unpackF (fun i => (packF f n).getD i 0) (packF f n).length most = if n ≤ most then some ((List.range n).map f) else none := by
  have := open_pack f n most (fun i => (packF f n).getD i 0) (packF f n).length n 0 0 (packF f n).length (by omega) (by omega) (by omega) (by omega) (by unfold packF; omega) (fun i _ => by rw [Nat.zero_add]; rfl)
  unfold unpackF
  rw [show ([] : List Int) = (List.range 0).map f from rfl, this]
  split
  · simp only [Option.filter, packL_row, range_getD]; simp
  · rfl
end Go.Proofs.Ytgelgpcpllmnkaa
