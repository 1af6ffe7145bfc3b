/-
  Contracts: Take, Dropped, Len; the law's right, last, and its example.
-/
import Derived.Test.YtgelgpcpllmnkaaQueue
namespace Go.Proofs.Ytgelgpcpllmnkaa
open Go.RowKit
def TakePost (base p : Nat) (cap pol d : Int) (v : Value) (xs : List Int) (w : World) (e : Ending) (w' : World) : Prop :=
  match xs with
  | [] => e = .returned (.tuple #[.int .i64 0, .int .i64 270]) ∧ QAt w' base p cap pol v [] d ∧ Save (fun k => k = p) w w'
  | x :: rest => e = .returned (.tuple #[.int .i64 x, .int .i64 0]) ∧ ∃ v', QAt w' base p cap pol v' rest d ∧ (∀ g, v'.ownBlock = some g → w.heap.size ≤ g) ∧ Save (fun k => k = p) w w'
theorem own_base {w : World} {base base' : Nat} {e : TypeId} {size : Nat} {v : Value} {n : Nat} {xs : List Value} (h : w.ownsRow base e size v n xs) (hb : base' ≤ base) : w.ownsRow base' e size v n xs :=
  ⟨h.1, h.2.elim .inl fun ⟨g, cap, cur, h1, h2, h3⟩ => .inr ⟨g, cap, cur, h1, Nat.le_trans hb h2, h3⟩⟩
set_option maxRecDepth 100000 in
set_option maxHeartbeats 2000000 in
theorem take_any (base p : Nat) (cap pol d : Int) (v : Value) (xs : List Int) (w : World) (hq : QAt w base p cap pol v xs d) (hbw : base ≤ w.heap.size) (hlen : xs.length ≤ 100000) :
    Calls Try.prog 19 #[.pointer (some ⟨p, 0, none⟩)] w fun e w' => TakePost base p cap pol d v xs w e w' := by
  obtain ⟨i0, hi, hz0, hz1, hz2⟩ := info_parts infoInt
  obtain ⟨ao, ac, rfl, hac, hacm, hra, hpos⟩ := vi_view hq.row
  have c2 := hq.c2
  have f2 := blk_frozen hq.blk 2
  cases xs with
  | nil =>
    go_enter Try.func19, Try.ntmps19
    go_wp2
    go_ret2
    exact ⟨rfl, hq, Save.refl _ _⟩
  | cons x rest =>
    obtain ⟨g, rfl, hg⟩ := hpos (by simp)
    have hca : w.cell? ⟨g, 0, none⟩ = some (.int .i64 x) := hra.cellAt (i := 0) (by simp)
    rcases Nat.eq_zero_or_pos rest.length with h0 | h0
    · obtain rfl : rest = [] := List.eq_nil_of_length_eq_zero h0
      have hqb := hq.blk
      simp only [List.length_cons, List.length_nil, Nat.zero_add] at hqb c2 hac
      by_cases hc1 : ac = 1
      · subst hc1
        go_enter Try.func19, Try.ntmps19
        go_wp2_with (at_builtin; refine wpList_append_own_at _ rfl _ _ 25 rfl w.heap.size 3 i0 (.int .i64 0) 1 8 Try.underlying25 hi hz0 hz1 hz2 rfl (by decide) (.slice none 0 0) 0 [] rfl (World.ownsRow_nil w w.heap.size 3 1) ⟨g, 0, none⟩ 0 _ [] rfl rfl (fun j u h => by cases h) (fun u h => by cases h) (by unfold maxLen; omega) (by omega) (Nat.le_refl _) ?_; intro v' w1 hown hgrow hnil hat; obtain ⟨rfl, _⟩ : v' = .slice none 0 0 ∧ True := ⟨hnil.2 ⟨rfl, rfl⟩, trivial⟩; have hblk1 := blk_save hqb (Save.of_grown hgrow) (fun e => by cases e); have hc2 : w1.cell? ⟨p, 2, none⟩ = some (.slice (some ⟨g, 0, none⟩) 1 1) := blk_cell hblk1 2; have hf2 := blk_frozen hblk1 2)
        go_ret2
        exact ⟨rfl, _, qset hblk1 (World.ownsRow_nil _ _ _ _) hq.low, fun g h => (by cases h), ((Save.of_grown hgrow).mono fun _ e => (by cases e)).trans (Save.set w1 p 2 _) fun _ _ h => h⟩
      · have hc2 : 1 < ac := by omega
        go_enter Try.func19, Try.ntmps19
        go_wp2_with (at_builtin; refine wpList_append_own_at _ rfl _ _ 25 rfl w.heap.size 3 i0 (.int .i64 0) 1 8 Try.underlying25 hi hz0 hz1 hz2 rfl (by decide) (.slice none 0 0) 0 [] rfl (World.ownsRow_nil w w.heap.size 3 1) ⟨g, 1, none⟩ 0 _ [] rfl rfl (fun j u h => by cases h) (fun u h => by cases h) (by unfold maxLen; omega) (by omega) (Nat.le_refl _) ?_; intro v' w1 hown hgrow hnil hat; obtain ⟨rfl, _⟩ : v' = .slice none 0 0 ∧ True := ⟨hnil.2 ⟨rfl, rfl⟩, trivial⟩; have hblk1 := blk_save hqb (Save.of_grown hgrow) (fun e => by cases e); have hc2 : w1.cell? ⟨p, 2, none⟩ = some (.slice (some ⟨g, 0, none⟩) 1 ac) := blk_cell hblk1 2; have hf2 := blk_frozen hblk1 2)
        go_ret2
        exact ⟨rfl, _, qset hblk1 (World.ownsRow_nil _ _ _ _) hq.low, fun g h => (by cases h), ((Save.of_grown hgrow).mono fun _ e => (by cases e)).trans (Save.set w1 p 2 _) fun _ _ h => h⟩
    · obtain ⟨n, hn⟩ : ∃ n, (x :: rest).length = n := ⟨_, rfl⟩
      have hnr : rest.length + 1 = n := hn
      have hqb := hq.blk
      rw [hn] at hac c2 hra hlen hqb
      have hnews : ∀ (j : Nat) (u : Value), (vi rest)[j]? = some u → w.cell? ((⟨g, 1, none⟩ : Addr).add j) = some u := fun j u hj => by
        have hjl : j < rest.length := by
          have := (List.getElem?_eq_some_iff.1 hj).1
          rwa [vi_length] at this
        have := hra.cellAt (i := 1 + j) (by omega)
        rw [show 0 + (1 + j) = 1 + j by omega] at this
        rw [add_off, this, ← hj, Nat.add_comm 1 j]
        simp [vi, List.getD, hjl]
      have hn2 : 2 ≤ n := by omega
      have hac2 : 1 < ac := by omega
      have t1 : ((n : Int) == 0) = false := by simp; omega
      clear hn
      have HVL := hid (show (vi rest).length = (n - 1) * 1 by rw [vi_length]; omega)
      have HNR := hid hnr
      clear hnr
      go_enter Try.func19, Try.ntmps19
      go_wp2_with (at_builtin; refine wpList_append_own_at _ rfl _ _ 25 rfl w.heap.size 3 i0 (.int .i64 0) 1 8 Try.underlying25 hi hz0 hz1 hz2 rfl (by decide) (.slice none 0 0) 0 [] rfl (World.ownsRow_nil w w.heap.size 3 1) ⟨g, 1, none⟩ (n - 1) _ (vi rest) rfl HVL.out hnews (vi_one _) (by unfold maxLen; omega) (by omega) (Nat.le_refl _) ?_; intro v' w1 hown hgrow hnil hat; rw [Nat.zero_add, List.nil_append] at hown; obtain ⟨g', cg, rfl, _, _, _, _, _⟩ := own_form hown (by omega); have hblk1 := blk_save hqb (Save.of_grown hgrow) (fun e => by cases e); have hc2 : w1.cell? ⟨p, 2, none⟩ = some (.slice (some ⟨g, 0, none⟩) n ac) := blk_cell hblk1 2; have hf2 := blk_frozen hblk1 2)
      go_ret2
      refine ⟨rfl, _, qset hblk1 (by rw [show rest.length = n - 1 by have := HNR.out; omega]; exact own_base hown hbw) hq.low, fun g'' h => ?_, ((Save.of_grown hgrow).mono fun _ e => (by cases e)).trans (Save.set w1 p 2 _) fun _ _ h => h⟩
      rcases hat with e | e
      · rw [e] at h; cases h
      · rw [e] at h; cases h; exact Nat.le_refl _
theorem dropped_any (base p : Nat) (cap pol d : Int) (v : Value) (xs : List Int) (w : World) (hq : QAt w base p cap pol v xs d) :
    Calls Try.prog 17 #[.pointer (some ⟨p, 0, none⟩)] w fun e w' => e = .returned (.int .i64 d) ∧ w = w' := by
  have c3 := hq.c3
  go_enter Try.func17, Try.ntmps17
  go_wp2
  go_ret
  exact ⟨rfl, rfl⟩
/-- The law's own guard. -/
def rightL (cap pol : Int) : Bool := decide (1 ≤ cap) && decide (cap ≤ 16) && ((pol == 1) || (pol == 2) || (pol == 3))
theorem rightL_is (cap pol : Int) : rightL cap pol = rightB cap pol := by
  unfold rightL rightB
  rw [Bool.eq_iff_iff]
  simp
  omega
set_option maxHeartbeats 1000000 in
theorem lright_any (cap pol : Int) (w : World) : Calls Try.prog 14 #[.agg #[.int .i64 cap, .int .i64 pol]] w fun e w' => e = .returned (.bool (rightB cap pol)) ∧ Below w.heap.size w w' := by
  have hb := (Below.refl w.heap.size w).alloc (Nat.le_refl _) (Obj.cells #[.int .i64 cap, .int .i64 pol] 24)
  rw [← rightL_is]
  unfold rightL
  cases h1 : decide (1 ≤ cap) <;> cases h2 : decide (cap ≤ 16) <;> cases h3 : (pol == 1) <;> cases h4 : (pol == 2) <;> cases h5 : (pol == 3)
  all_goals
    go_enter Try.func14, Try.ntmps14
    go_wp2
    go_ret
    exact ⟨rfl, hb⟩
/-! ### the law's last -/
theorem last_same (ao : Option Addr) (n c : Nat) (m : Int) (w : World) (h : (n : Int) ≤ m) : Calls Try.prog 18 #[.slice ao n c, .int .i64 m] w fun e w' => e = .returned (.slice ao n c) ∧ w = w' := by
  have t0 : decide (m < (n : Int)) = false := by simp; omega
  go_enter Try.func18, Try.ntmps18
  go_wp2
  go_ret
  exact ⟨rfl, rfl⟩
set_option maxHeartbeats 1000000 in
theorem last_cut (ao : Option Addr) (c m : Nat) (xs : List Int) (w : World) (hr : Row w ao xs.length (fun i => .int .i64 (xs.getD i 0))) (hc : xs.length ≤ c) (_hcm : c ≤ maxLen) (hx : xs.length ≤ 100000) (hm : 0 < m) (h : m < xs.length) :
    Calls Try.prog 18 #[.slice ao xs.length c, .int .i64 m] w fun e w' => ∃ v, e = .returned v ∧ w'.ownsRow w.heap.size 3 1 v (xs.drop (xs.length - m)).length (vi (xs.drop (xs.length - m))) ∧ Below w.heap.size w w' := by
  obtain ⟨i0, hi, hz0, hz1, hz2⟩ := info_parts infoInt
  obtain ⟨b, o, rfl, _⟩ := hr 0 (by omega)
  obtain ⟨n, hn⟩ : ∃ n, xs.length = n := ⟨_, rfl⟩
  have t0 : decide ((m : Int) < (n : Int)) = true := by simp; omega
  rw [hn] at hr hc hx h ⊢
  have hnews : ∀ (j : Nat) (u : Value), (vi (xs.drop (n - m)))[j]? = some u → (w.alloc (Obj.cells #[] 3)).cell? ((⟨b, o + (n - m), none⟩ : Addr).add j) = some u := fun j u hj => by
    have hjl : j < m := by
      have := (List.getElem?_eq_some_iff.1 hj).1
      rw [vi_length, List.length_drop] at this; omega
    have := (hr.alloc (Obj.cells #[] 3)).cellAt (i := n - m + j) (by omega)
    rw [add_off, Nat.add_assoc, this, ← hj]
    simp only [vi, List.getElem?_map, List.getElem?_drop, List.getD]
    rw [List.getElem?_eq_getElem (by omega)]; rfl
  have hvl : (vi (xs.drop (n - m))).length = m * 1 := by rw [vi_length, List.length_drop]; omega
  have hdl : (xs.drop (n - m)).length = m := by rw [List.length_drop]; omega
  obtain ⟨L, hL⟩ : ∃ L, xs.drop (n - m) = L := ⟨_, rfl⟩
  rw [hL] at hnews hvl hdl ⊢
  clear hL hn hr
  have HVL := hid hvl
  have HDL := hid hdl
  clear hvl hdl
  have e1 : n - (n - m) = m := by omega
  have hb := (Below.refl w.heap.size w).alloc (Nat.le_refl _) (Obj.cells #[] 3)
  have hown0 : (w.alloc (Obj.cells #[] 3)).ownsRow w.heap.size 3 1 (.slice (some ⟨w.heap.size, 0, none⟩) 0 0) 0 [] := World.ownsRow_made (w := w) #[] 0 (Nat.le_refl _) (Nat.zero_le _) rfl
  go_enter Try.func18, Try.ntmps18
  have e2 : ((n : Int) - (m : Int)).toNat = n - m := by omega
  go_wp2_with (at_builtin; refine wpList_append_own_at _ rfl _ _ 25 rfl w.heap.size 3 i0 (.int .i64 0) 1 8 Try.underlying25 hi hz0 hz1 hz2 rfl (by decide) (.slice (some ⟨w.heap.size, 0, none⟩) 0 0) 0 [] rfl hown0 ⟨b, o + (n - m), none⟩ m _ (vi L) rfl HVL.out hnews (vi_one _) (by unfold maxLen; omega) (by omega) (by simp) ?_; intro v' w1 hown hgrow hnil hat; rw [Nat.zero_add, List.nil_append] at hown)
  go_ret
  exact ⟨_, rfl, by rw [HDL.out]; exact hown, hb.grown hgrow hb.size fun j hj => by cases hj; exact Nat.le_refl _⟩
end Go.Proofs.Ytgelgpcpllmnkaa
