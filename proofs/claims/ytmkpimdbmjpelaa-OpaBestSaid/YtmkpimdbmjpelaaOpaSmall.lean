/-
  Contracts of layer 38: what may be asked, two rows of numbers, the tasks at places, places without one of them.
-/
import Derived.Test.YtmkpimdbmjpelaaOpaLaw
import Derived.Test.YtmkpimdbmjpelaaChain
import Derived.Deep.RegionHeld3
import Derived.ArgAppend
import Derived.Laws.AppendOwnNone
namespace Go.Proofs.Ytmkpimdbmjpelaa
open Go.RowKit
theorem infoTk : (Try.prog.info? 64).map (fun i => (i.zero, i.size, i.bytes)) = some (some (.agg #[.int .i64 0, .int .i64 0, .int .i64 0, .int .i64 0, .int .i64 0, .int .i64 0, .int .i64 0, .int .i64 0, .int .i64 0, .int .i64 0, .int .i64 0]), 11, 88) := by kernel_rfl
theorem infoIt : (Try.prog.info? 3).map (fun i => (i.zero, i.size, i.bytes)) = some (some (.int .i64 0), 1, 8) := by kernel_rfl
set_option maxHeartbeats 1000000 in
theorem right38_any (ao : Option Addr) (n cap : Nat) (g : Nat → Nat → Int) (most : Nat) (w : World) (hm : n ≤ maxLen) (hs : most ≤ 100) (hT : Tasks w ao n g) :
    Calls Try.prog 6 #[.slice ao n cap, .int .i64 most] w fun e w' => ∃ r : Bool, e = .returned (.bool r) ∧ (r = true ↔ n ≤ most ∧ ∀ i, i < n → OkT (g i)) ∧ Below w.heap.size w w' := by
  unfold maxLen at hm
  by_cases h : most < n
  · have hd : decide ((most : Int) < n) = true := by simp; omega
    go_enter Try.func6, Try.ntmps6
    go_wp2
    go_ret
    exact ⟨false, rfl, by simp; intros; omega, Below.refl _ _⟩
  · have hd : decide ((most : Int) < n) = false := by simp; omega
    go_enter Try.func6, Try.ntmps6
    go_wp2
    go_loopw [5, 6] (fun i _ wr => ∃ k : Nat, k ≤ n ∧ i = .int .i64 k ∧ Hid (∀ j, j < k → OkT (g j)) ∧ Below w.heap.size w wr) (fun i _ _ => n - (intOf i).toNat)
    case atStart => exact ⟨0, by omega, rfl, (fun j hj => by omega), Below.refl _ _⟩
    case round =>
      obtain ⟨k, hk, rfl, HF, hb⟩ := hrel
      by_cases hlt : k < n
      · obtain ⟨b, o, rfl, hbl⟩ := hT.form hlt
        obtain ⟨⟨c0, c1, c2, c3⟩, ⟨c4, c5, c6, c7⟩, c8, c9, c10⟩ := (hT.below hb).at_ hlt
        rcases okT_cases (g k) with hf | ⟨hno, hf | hf | hf | hf | hf | hf⟩
        · have HF2 : Hid (∀ j, j < k + 1 → OkT (g j)) := fun j hj => by
            rcases (show j < k ∨ j = k by omega) with e | rfl
            · exact HF.out j e
            · exact hf
          obtain ⟨p1, p2, p3, p4, p5, p6⟩ := hf
          have d1 : decide (g k 0 < g k 1) = false := by simp; omega
          have d2 : decide (g k 1 < g k 2) = false := by simp; omega
          go_wp2
          go_roundw
          case rel => exact ⟨k + 1, by omega, by go_num, HF2, hb.alloc hb.size _⟩
          case measure => simp [intOf]; omega
        all_goals
          have hno2 : Hid (¬ ∀ i, i < n → OkT (g i)) := fun h => hno (h k hlt)
          clear hno
          go_wp2
          go_ret
          exact ⟨false, rfl, by simp only [Bool.false_eq_true, false_iff]; exact fun h => hno2.out h.2, hb.alloc hb.size _⟩
      · obtain rfl : k = n := by omega
        go_wp2
        go_ret
        exact ⟨true, rfl, by simp only [true_iff]; exact ⟨by omega, HF.out⟩, hb⟩
/-- Places, as cells. -/
def ints (l : List Nat) : List Value := l.map fun (i : Nat) => Value.int .i64 i
theorem ints_length (l : List Nat) : (ints l).length = l.length := by simp [ints]
theorem ints_append (l m : List Nat) : ints (l ++ m) = ints l ++ ints m := by simp [ints]
theorem ints_one (l : List Nat) : ∀ u ∈ ints l, u.oneCell' = true := fun u hu => by
  obtain ⟨i, _, rfl⟩ := List.mem_map.1 hu
  rfl
theorem ints_at {l : List Nat} {k : Nat} (h : k < l.length) : (ints l)[k]? = some (.int .i64 (l.getD k 0 : Nat)) := by
  simp [ints, List.getD, h]
/-- Places lie there. -/
def Places (w : World) (ao : Option Addr) (l : List Nat) : Prop := Row w ao l.length (fun i => .int .i64 (l.getD i 0 : Nat))
theorem Places.of_own {w : World} {base : Nat} {ao : Option Addr} {n cap : Nat} {l : List Nat} (hl : l.length = n) (h : w.ownsRow base 3 1 (.slice ao n cap) n (ints l)) : Places w ao l := by
  unfold Places
  rw [hl]
  refine (row_of_own h).congr fun i hi => ?_
  rw [List.getD_eq_getElem?_getD, ints_at (by omega)]; rfl
/-- The cells of the first ones; of those behind a place. -/
theorem news_take {w : World} {b o k : Nat} {l : List Nat} (h : Places w (some ⟨b, o, none⟩) l) (hk : k ≤ l.length) : ∀ (j : Nat) (u : Value), (ints (l.take k))[j]? = some u → w.cell? ((⟨b, o, none⟩ : Addr).add j) = some u := fun j u hj => by
  have hlt : j < (ints (l.take k)).length := (List.getElem?_eq_some_iff.1 hj).1
  rw [ints_length, List.length_take] at hlt
  have := h.cellAt (i := j) (show j < l.length by omega)
  rw [add_off, this, ← hj]
  simp [ints, List.getElem?_take, List.getD, show j < k by omega, show j < l.length by omega]
theorem news_drop {w : World} {b o k : Nat} {l : List Nat} (h : Places w (some ⟨b, o, none⟩) l) : ∀ (j : Nat) (u : Value), (ints (l.drop k))[j]? = some u → w.cell? ((⟨b, o + k, none⟩ : Addr).add j) = some u := fun j u hj => by
  have hlt : j < (ints (l.drop k)).length := (List.getElem?_eq_some_iff.1 hj).1
  rw [ints_length, List.length_drop] at hlt
  have := h.cellAt (i := k + j) (show k + j < l.length by omega)
  rw [add_off, show o + k + j = o + (k + j) by omega, this, ← hj]
  simp [ints, List.getElem?_drop, List.getD, show k + j < l.length by omega]
theorem eraseIdx_parts (l : List Nat) (k : Nat) : l.eraseIdx k = l.take k ++ l.drop (k + 1) := List.eraseIdx_eq_take_drop_succ l k
/-! ### two rows of numbers that are the same -/
set_option maxHeartbeats 1000000 in
theorem row38_same (ao bo : Option Addr) (n ca cb : Nat) (f : Nat → Int) (w : World) (ha : Row w ao n (fun j => .int .i64 (f j))) (hb : Row w bo n (fun j => .int .i64 (f j))) (hn : n ≤ 100000) :
    Calls Try.prog 31 #[.slice ao n ca, .slice bo n cb] w fun e w' => e = .returned (.bool true) ∧ Below w.heap.size w w' := by
  have t1 : ((n : Int) == (n : Int)) = true := by simp
  go_enter Try.func31, Try.ntmps31
  go_wp2
  go_loopw [5] (fun i_ wr => ∃ i : Nat, i_ = .int .i64 i ∧ i ≤ n ∧ Below w.heap.size w wr) (fun i_ _ => n - (intOf i_).toNat)
  case atStart => exact ⟨0, rfl, Nat.zero_le _, Below.refl _ _⟩
  case round =>
    obtain ⟨i, rfl, hik, hbr⟩ := hrel
    rcases Nat.lt_or_ge i n with hi1 | hi1
    · have t2 : decide ((i : Int) < (n : Int)) = true := by simp; omega
      obtain ⟨b, o, rfl, hc10⟩ := (ha.below hbr) i hi1
      have hc1 : wr.cell? ⟨b, o + i, none⟩ = some (.int .i64 (f i)) := hc10
      clear hc10
      obtain ⟨b2, o2, rfl, hc20⟩ := (hb.below hbr) i hi1
      have hc2 : wr.cell? ⟨b2, o2 + i, none⟩ = some (.int .i64 (f i)) := hc20
      clear hc20
      have j0 : (0 : Int) ≤ (i : Int) := by omega
      have j1 : (i : Int) < (n : Int) := by omega
      have h4 : (f i != f i) = false := by simp
      go_wp2
      go_quiet (fail)
      go_wp2
      go_roundw
      case rel => exact ⟨i + 1, by go_num, by omega, hbr.trans ⟨rfl, rfl, rfl, Nat.le_refl _, fun _ _ => rfl⟩⟩
      case measure => simp [intOf]; omega
    · obtain rfl : i = n := by omega
      have t2 : decide ((i : Int) < (i : Int)) = false := by simp
      go_wp2
      go_ret
      exact ⟨rfl, hbr⟩
/-! ### the tasks at places -/
theorem news11 (W : World) (x : Nat → Int) (t : TypeId) : ∀ (j : Nat) (u : Value), (c11 x)[j]? = some u → (W.alloc (Obj.cells #[.int .i64 (x 0), .int .i64 (x 1), .int .i64 (x 2), .int .i64 (x 3), .int .i64 (x 4), .int .i64 (x 5), .int .i64 (x 6), .int .i64 (x 7), .int .i64 (x 8), .int .i64 (x 9), .int .i64 (x 10)] t)).cell? ((⟨W.heap.size, 0, none⟩ : Addr).add j) = some u := fun j u hj => by
  rw [add_off, Nat.zero_add, World.cell?_alloc_at _ _ _ _ rfl]; simpa [c11] using hj
theorem c11_one (x : Nat → Int) : ∀ u ∈ c11 x, u.oneCell' = true := fun u hu => by
  simp only [c11, List.mem_cons, List.not_mem_nil, or_false] at hu
  rcases hu with rfl | rfl | rfl | rfl | rfl | rfl | rfl | rfl | rfl | rfl | rfl <;> rfl
set_option maxRecDepth 100000 in
set_option maxHeartbeats 1000000 in
theorem pick_any (ao po : Option Addr) (n m ca cp : Nat) (g : Nat → Nat → Int) (P : List Nat) (w : World) (hm : P.length = m) (hm2 : m ≤ 20) (hT : Tasks w ao n g) (hP : Places w po P) (hB : Bel n P) :
    Calls Try.prog 30 #[.slice ao n ca, .slice po m cp] w fun e w' => ∃ v, e = .returned v ∧ w'.ownsRow w.heap.size 64 11 v m (cells11 (othG g P) m) ∧ Below w.heap.size w w' := by
  obtain ⟨i0, hi, hz0, hz1, hz2⟩ := info_parts infoTk
  have HM := hid hm
  have HT := hid hT
  have HP := hid hP
  have HB := hid hB
  clear hm hT hP hB
  go_enter Try.func30, Try.ntmps30
  go_wp2
  go_loopw [5, 6] (fun v i wr => ∃ k : Nat, k ≤ m ∧ i = .int .i64 k ∧ wr.ownsRow w.heap.size 64 11 v k (cells11 (othG g P) k) ∧ Hid (Below w.heap.size w wr)) (fun _ i _ => m - (intOf i).toNat)
  case atStart => exact ⟨0, by omega, rfl, World.ownsRow_nil _ _ _ _, Below.refl _ _⟩
  case round =>
    obtain ⟨k, hk, rfl, hown, HBR⟩ := hrel
    by_cases hlt : k < m
    · have hkP : k < P.length := by rw [HM.out]; exact hlt
      have hin := HB.out.at_ hkP
      obtain ⟨pb, pof, rfl, c00⟩ := (HP.out.below HBR.out) k hkP
      have cP : wr.cell? ⟨pb, pof + k, none⟩ = some (.int .i64 (P.getD k 0 : Nat)) := c00
      have HG : Hid (othG g P k = g (P.getD k 0)) := rfl
      obtain ⟨p, hp⟩ : ∃ p, P.getD k 0 = p := ⟨_, rfl⟩
      rw [hp] at hin cP HG
      obtain ⟨b, o, rfl, _⟩ := HT.out.form hin
      obtain ⟨⟨c0, c1, c2, c3⟩, ⟨c4, c5, c6, c7⟩, c8, c9, c10⟩ := (HT.out.below HBR.out).at_ hin
      have i0' : (0 : Int) ≤ (k : Int) := by omega
      have i1 : (k : Int) < (m : Int) := by omega
      have i2 : (0 : Int) ≤ (p : Int) := by omega
      have i3 : (p : Int) < (n : Int) := by omega
      have hsz := HBR.out.size
      clear c00 hp
      go_wp2_with (at_builtin; refine wpList_append_own _ rfl _ _ 22 rfl w.heap.size 64 i0 (.agg #[.int .i64 0, .int .i64 0, .int .i64 0, .int .i64 0, .int .i64 0, .int .i64 0, .int .i64 0, .int .i64 0, .int .i64 0, .int .i64 0, .int .i64 0]) 11 88 Try.underlying22 hi hz0 hz1 hz2 rfl (by decide) u5 k _ rfl (hown.alloc _) ⟨wr.heap.size, 0, none⟩ 1 1 (c11 (g p)) rfl rfl (news11 wr (g p) _) (c11_one _) (by unfold maxLen; omega) (by omega) (by simp; omega) ?_; intro v' w1 hown1 hgrow _; have HO1 := hid hown1; have HB1 := hid ((HBR.out.alloc hsz _).grown hgrow (by simp; omega) fun j hj => (hown.lt j hj).1); clear hown1 hgrow)
      go_roundw
      case rel => exact ⟨k + 1, by omega, by go_num, by rw [cells11, HG.out]; exact HO1.out, HB1⟩
      case measure => simp [intOf]; omega
    · obtain rfl : k = m := by omega
      go_wp2
      go_ret
      exact ⟨_, rfl, hown, HBR.out⟩
end Go.Proofs.Ytmkpimdbmjpelaa
