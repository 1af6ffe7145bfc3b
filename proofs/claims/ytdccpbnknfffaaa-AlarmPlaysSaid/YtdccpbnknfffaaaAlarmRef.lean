/-
  Layer 48: contracts of the law's own find, drop, row.
-/
import Derived.Test.YtdccpbnknfffaaaAlarmRefLaw
import Derived.Test.YtdccpbnknfffaaaDeltaRef2
import Derived.Deep.RegionHeld3
namespace Go.Proofs.Ytdccpbnknfffaaa
open Go.RowKit
def cells3 (x : XL) : List Value := x.flatMap fun e => [.int .i64 e.1, .int .i64 e.2.1, .int .i64 e.2.2]
theorem cells3_snoc (x : XL) (e : Int × Int × Int) : cells3 (x ++ [e]) = cells3 x ++ [.int .i64 e.1, .int .i64 e.2.1, .int .i64 e.2.2] := by simp [cells3]
theorem cells3_cons (e : Int × Int × Int) (x : XL) : cells3 (e :: x) = .int .i64 e.1 :: .int .i64 e.2.1 :: .int .i64 e.2.2 :: cells3 x := by simp [cells3]
theorem cells3_length (x : XL) : (cells3 x).length = x.length * 3 := by
  induction x with
  | nil => rfl
  | cons e l ih => rw [cells3_cons]; simp only [List.length_cons, ih]; omega
theorem cells3_at : ∀ {x : XL} {i : Nat}, i < x.length → (cells3 x)[i * 3]? = some (.int .i64 (x.getD i (0, 0, 0)).1) ∧ (cells3 x)[i * 3 + 1]? = some (.int .i64 (x.getD i (0, 0, 0)).2.1) ∧ (cells3 x)[i * 3 + 2]? = some (.int .i64 (x.getD i (0, 0, 0)).2.2)
  | [], i, h => by simp at h
  | e :: l, 0, _ => by simp [cells3]
  | e :: l, i + 1, h => by
    have := cells3_at (x := l) (i := i) (by simpa using h)
    rw [cells3_cons, show (i + 1) * 3 = i * 3 + 1 + 1 + 1 by omega, show i * 3 + 1 + 1 + 1 + 1 = i * 3 + 1 + 1 + 1 + 1 from rfl]
    simp only [List.getElem?_cons_succ]
    simpa using this
theorem cells3_one (x : XL) : ∀ u ∈ cells3 x, u.oneCell' = true := fun u hu => by
  obtain ⟨e, _, he⟩ := List.mem_flatMap.1 hu
  simp only [List.mem_cons, List.not_mem_nil, or_false] at he
  rcases he with rfl | rfl | rfl <;> rfl
/-- One count more. -/
theorem cells3_bumpX {x : XL} {k : Nat} (hk : k < x.length) : cells3 (bumpX k x) = (cells3 x).set (k * 3 + 2) (.int .i64 ((x.getD k (0, 0, 0)).2.2 + 1)) := by
  induction x generalizing k with
  | nil => simp at hk
  | cons e l ih =>
    cases k with
    | zero => simp [bumpX, cells3]
    | succ k =>
      have hb : bumpX (k + 1) (e :: l) = e :: bumpX k l := by simp [bumpX]
      rw [hb, cells3_cons, cells3_cons, ih (by simpa using hk), show (k + 1) * 3 + 2 = k * 3 + 2 + 1 + 1 + 1 by omega]
      simp
/-- Alarms in a row. -/
def XAt (w : World) (ao : Option Addr) (x : XL) : Prop := ∀ i, i < x.length → ∃ b o, ao = some ⟨b, o, none⟩ ∧ w.cell? ⟨b, o + i * 3, none⟩ = some (.int .i64 (x.getD i (0, 0, 0)).1) ∧ w.cell? ⟨b, o + i * 3 + 1, none⟩ = some (.int .i64 (x.getD i (0, 0, 0)).2.1) ∧ w.cell? ⟨b, o + i * 3 + 2, none⟩ = some (.int .i64 (x.getD i (0, 0, 0)).2.2)
theorem XAt.below {w w' : World} {ao : Option Addr} {x : XL} (h : XAt w ao x) (hb : Below w.heap.size w w') : XAt w' ao x := fun i hi => by
  obtain ⟨b, o, e, h1, h2, h3⟩ := h i hi
  exact ⟨b, o, e, (hb.cell (cell_lt h1)).trans h1, (hb.cell (cell_lt h2)).trans h2, (hb.cell (cell_lt h3)).trans h3⟩
theorem xat_of_own {w : World} {base : Nat} {e : TypeId} {v : Value} {x : XL} {n : Nat} (h : w.ownsRow base e 3 v n (cells3 x)) (hn : n = x.length) : ∃ ao cap, v = .slice ao n cap ∧ XAt w ao x ∧ (∀ b o, ao = some ⟨b, o, none⟩ → o = 0) := by
  subst hn
  rcases h.2 with ⟨rfl, h2⟩ | ⟨g, cap, cur, rfl, _⟩
  · have h2 : x.length = 0 := h2
    exact ⟨none, 0, by rw [h2], fun i hi => by omega, fun b o e => by cases e⟩
  · refine ⟨_, cap, rfl, fun i hi => ⟨g, 0, rfl, ?_⟩, fun b o e => by cases e; rfl⟩
    obtain ⟨h3, h4, h5⟩ := cells3_at hi
    rw [Nat.zero_add]
    exact ⟨(h.cellAt (i * 3) (by omega)).trans h3, (h.cellAt (i * 3 + 1) (by omega)).trans h4, (h.cellAt (i * 3 + 2) (by omega)).trans h5⟩
theorem infoX3 : (Try.prog.info? 63).map (fun i => (i.zero, i.size, i.bytes)) = some (some (.agg #[.int .i64 0, .int .i64 0, .int .i64 0]), 3, 24) := by kernel_rfl
theorem takeX_snoc {x : XL} {k : Nat} (hk : k < x.length) : x.take (k + 1) = x.take k ++ [x.getD k (0, 0, 0)] := by
  rw [List.take_succ_eq_append_getElem hk]; simp [hk]
theorem dropX_snoc (id : Int) (l : XL) (e : Int × Int × Int) : dropX id (l ++ [e]) = if e.1 = id then dropX id l else dropX id l ++ [e] := by
  unfold dropX
  rw [List.filter_append]
  by_cases h : e.1 = id
  · rw [if_pos h, List.filter_cons_of_neg (by simpa using h)]; simp
  · rw [if_neg h, List.filter_cons_of_pos (by simpa using h)]; simp
/-! ### find -/
def posI (id : Int) (x : XL) : Int := match posX id x with
  | none => -1
  | some k => (k : Int)
theorem posX_at {id : Int} {x : XL} {k : Nat} (h : ∀ j, j < k → (x.getD j (0, 0, 0)).1 ≠ id) (hk : k < x.length) (he : (x.getD k (0, 0, 0)).1 = id) : posI id x = (k : Int) := by
  have : posX id x = some k := by
    induction x generalizing k with
    | nil => simp at hk
    | cons e l ih =>
      unfold posX
      cases k with
      | zero => rw [if_pos (by simpa using he)]
      | succ k =>
        have h0 : ¬ e.1 = id := by simpa using h 0 (by omega)
        rw [if_neg h0, ih (k := k) (fun j hj => by simpa using h (j + 1) (by omega)) (by simpa using hk) (by simpa using he)]; rfl
  unfold posI; rw [this]
theorem posX_miss {id : Int} {x : XL} (h : ∀ j, j < x.length → (x.getD j (0, 0, 0)).1 ≠ id) : posI id x = -1 := by
  have : posX id x = none := by
    induction x with
    | nil => rfl
    | cons e l ih =>
      unfold posX
      rw [if_neg (by simpa using h 0 (by simp)), ih fun j hj => by simpa using h (j + 1) (by simpa using hj)]; rfl
  unfold posI; rw [this]
set_option maxRecDepth 100000 in
set_option maxHeartbeats 1000000 in
theorem xfind_any (ao : Option Addr) (cap n : Nat) (x : XL) (hxn : x.length = n) (id : Int) (w : World) (hX : XAt w ao x) (hn : n ≤ 1000) :
    Calls Try.prog 30 #[.slice ao n cap, .int .i64 id] w fun e w' => e = .returned (.int .i64 (posI id x)) ∧ w = w' := by
  have HN := hid hxn
  have HX := hid hX
  clear hX hxn
  go_enter Try.func30, Try.ntmps30
  go_wp2
  go_loopw [5] (fun i wr => ∃ k : Nat, k ≤ n ∧ i = .int .i64 k ∧ Hid (∀ j, j < k → (x.getD j (0, 0, 0)).1 ≠ id) ∧ w = wr) (fun i _ => n - (intOf i).toNat)
  case atStart => exact ⟨0, by omega, rfl, (fun j hj => by omega), rfl⟩
  case round =>
    obtain ⟨k, hk, rfl, HF, rfl⟩ := hrel
    by_cases hlt : k < n
    · obtain ⟨b, o, rfl, c1, _, _⟩ := HX.out k (by rw [HN.out]; exact hlt)
      have i0' : (0 : Int) ≤ (k : Int) := by omega
      have i1 : (k : Int) < (n : Int) := by omega
      by_cases hx : (x.getD k (0, 0, 0)).1 = id
      · have HP := hid (posX_at HF.out (by rw [HN.out]; exact hlt) hx)
        have t1 : ((x.getD k (0, 0, 0)).1 == id) = true := by simpa using hx
        clear hx
        generalize (x.getD k (0, 0, 0)).1 = xi at c1 t1
        go_wp2
        go_ret
        exact ⟨by rw [HP.out]; rfl, rfl⟩
      · have HF2 : Hid (∀ j, j < k + 1 → (x.getD j (0, 0, 0)).1 ≠ id) := fun j hj => by
          rcases (show j < k ∨ j = k by omega) with e | rfl
          · exact HF.out j e
          · exact hx
        have t1 : ((x.getD k (0, 0, 0)).1 == id) = false := by simpa using hx
        clear hx
        generalize (x.getD k (0, 0, 0)).1 = xi at c1 t1
        go_wp2
        go_roundw
        case rel => exact ⟨k + 1, by omega, by go_num, HF2, trivial⟩
        case measure => simp [intOf]; omega
    · obtain rfl : k = n := by omega
      have HP := hid (posX_miss (id := id) (x := x) fun j hj => HF.out j (by rw [HN.out] at hj; exact hj))
      go_wp2
      go_ret
      exact ⟨by rw [HP.out]; rfl, rfl⟩
theorem xfind_own (B : Nat) (v : Value) (x : XL) (id : Int) (w : World) (h : w.ownsRow B 63 3 v x.length (cells3 x)) (hn : x.length ≤ 1000) : Calls Try.prog 30 #[v, .int .i64 id] w fun e w' => e = .returned (.int .i64 (posI id x)) ∧ w = w' := by
  obtain ⟨ao, cap, rfl, hX, _⟩ := xat_of_own h rfl
  exact xfind_any ao cap _ x rfl id w hX hn
/-! ### drop -/
set_option maxRecDepth 100000 in
set_option maxHeartbeats 1000000 in
theorem xdrop_any (ao : Option Addr) (cap n : Nat) (x : XL) (hxn : x.length = n) (id : Int) (w : World) (hX : XAt w ao x) (hn : n ≤ 1000) :
    Calls Try.prog 28 #[.slice ao n cap, .int .i64 id] w fun e w' => ∃ v, e = .returned v ∧ w'.ownsRow w.heap.size 63 3 v (dropX id x).length (cells3 (dropX id x)) ∧ Below w.heap.size w w' := by
  obtain ⟨i0, hi, hz0, hz1, hz2⟩ := info_parts infoX3
  have HN := hid hxn
  have HT := hid hX
  clear hX hxn
  go_enter Try.func28, Try.ntmps28
  go_wp2
  go_loopw [5, 6] (fun v i wr => ∃ k : Nat, k ≤ n ∧ i = .int .i64 k ∧ wr.ownsRow w.heap.size 63 3 v (dropX id (x.take k)).length (cells3 (dropX id (x.take k))) ∧ Below w.heap.size w wr) (fun _ i _ => n - (intOf i).toNat)
  case atStart => exact ⟨0, by omega, rfl, World.ownsRow_nil w w.heap.size 63 3, Below.refl _ _⟩
  case round =>
    obtain ⟨k, hk, rfl, hown, hbr⟩ := hrel
    by_cases hlt : k < n
    · obtain ⟨b, o, rfl, c1, c2, c3⟩ := HT.out.below hbr k (by rw [HN.out]; exact hlt)
      have hts := takeX_snoc (x := x) (k := k) (by rw [HN.out]; exact hlt)
      have HDS := hid (dropX_snoc id (x.take k) (x.getD k (0, 0, 0)))
      rw [← hts] at HDS
      have i0' : (0 : Int) ≤ (k : Int) := by omega
      have i1 : (k : Int) < (n : Int) := by omega
      generalize x.getD k (0, 0, 0) = y at c1 c2 c3 HDS
      obtain ⟨yi, ye, yc⟩ := y
      dsimp only at c1 c2 c3 HDS
      have hdl : (dropX id (x.take k)).length ≤ 1000 := by
        have h1 : (dropX id (x.take k)).length ≤ (x.take k).length := List.length_filter_le _ _
        have h2 : (x.take k).length ≤ k := by rw [List.length_take]; omega
        omega
      clear hts
      by_cases hx : yi = id
      · have t1 : (yi != id) = false := by simpa using hx
        rw [if_pos hx] at HDS
        clear hx
        go_wp2
        go_roundw
        case rel => exact ⟨k + 1, by omega, by go_num, by rw [HDS.out]; exact hown, hbr⟩
        case measure => simp [intOf]; omega
      · have t1 : (yi != id) = true := by simpa using hx
        rw [if_neg hx] at HDS
        have HL2 := hid (congrArg List.length HDS.out)
        have HC2 := hid ((congrArg cells3 HDS.out).trans (cells3_snoc _ _))
        rw [List.length_append] at HL2
        generalize hDD : dropX id (x.take k) = D at hown HL2 HC2 hdl
        have hownA := hown.alloc (Obj.cells #[Value.int .i64 yi, Value.int .i64 ye, Value.int .i64 yc] 63)
        have hbW := hbr.alloc hbr.size (Obj.cells #[Value.int .i64 yi, Value.int .i64 ye, Value.int .i64 yc] 63)
        have hnews : ∀ (j : Nat) (u : Value), [Value.int .i64 yi, Value.int .i64 ye, Value.int .i64 yc][j]? = some u → (wr.alloc (Obj.cells #[Value.int .i64 yi, Value.int .i64 ye, Value.int .i64 yc] 63)).cell? ((⟨wr.heap.size, 0, none⟩ : Addr).add j) = some u := fun j u hj => by
          rw [add_off, Nat.zero_add, World.cell?_alloc_at _ _ _ _ rfl]; simpa using hj
        have hsz := hid hbW.size
        clear HDS hDD hbr hx
        go_wp2_with (at_builtin; refine wpList_append_own _ rfl _ _ 58 rfl w.heap.size 63 i0 (.agg #[.int .i64 0, .int .i64 0, .int .i64 0]) 3 24 Try.underlying58 hi hz0 hz1 hz2 rfl (by decide) u5 D.length _ rfl hownA ⟨wr.heap.size, 0, none⟩ 1 1 _ rfl (by simp) hnews (by simp [Value.oneCell']) (by unfold maxLen; omega) (by omega) hsz.out ?_; intro v' w1 hown1 hgrow _; rw [← HC2.out] at hown1)
        go_roundw
        case rel => exact ⟨k + 1, by omega, by go_num, by rw [HL2.out]; exact hown1, hbW.grown hgrow hsz.out fun j hj => (hownA.lt j hj).1⟩
        case measure => simp [intOf]; omega
    · obtain rfl : k = n := by omega
      have htk : x.take k = x := List.take_of_length_le (by rw [HN.out]; exact Nat.le_refl _)
      rw [htk] at hown
      go_wp2
      go_ret
      exact ⟨_, rfl, hown, hbr⟩
theorem xdrop_own (B : Nat) (v : Value) (x : XL) (id : Int) (w : World) (h : w.ownsRow B 63 3 v x.length (cells3 x)) (hn : x.length ≤ 1000) (hB : B ≤ w.heap.size) : Calls Try.prog 28 #[v, .int .i64 id] w fun e w' => ∃ v', e = .returned v' ∧ w'.ownsRow B 63 3 v' (dropX id x).length (cells3 (dropX id x)) ∧ Below w.heap.size w w' := by
  obtain ⟨ao, cap, rfl, hX, _⟩ := xat_of_own h rfl
  refine (xdrop_any ao cap _ x rfl id w hX hn).mono ?_
  rintro e w' ⟨v', h1, h2, h3⟩
  exact ⟨v', h1, own_base h2 hB, h3⟩
/-! ### two rows of numbers -/
set_option maxHeartbeats 1000000 in
theorem arow_any (ao bo : Option Addr) (n m ca cb : Nat) (f g : Nat → Int) (w : World) (ha : Row w ao n (fun j => .int .i64 (f j))) (hb : Row w bo m (fun j => .int .i64 (g j))) (hn : n ≤ 100000) :
    Calls Try.prog 25 #[.slice ao n ca, .slice bo m cb] w fun e w' => e = .returned (.bool (eqN f g n m)) ∧ Below w.heap.size w w' := by
  by_cases hnm : n = m
  · subst hnm
    have t1 : ((n : Int) == (n : Int)) = true := by simp
    go_enter Try.func25, Try.ntmps25
    go_wp2
    go_loopw [5] (fun i_ wr => ∃ i : Nat, i_ = .int .i64 i ∧ i ≤ n ∧ Hid (∀ j, j < i → f j = g j) ∧ Below w.heap.size w wr) (fun i_ _ => n - (intOf i_).toNat)
    case atStart => exact ⟨0, rfl, Nat.zero_le _, fun j hj => by omega, Below.refl _ _⟩
    case round =>
      obtain ⟨i, rfl, hik, HS, hbr⟩ := hrel
      rcases Nat.lt_or_ge i n with hi1 | hi1
      · have t2 : decide ((i : Int) < (n : Int)) = true := by simp; omega
        obtain ⟨b, o, rfl, hc10⟩ := (ha.below hbr) i hi1
        have hc1 : wr.cell? ⟨b, o + i, none⟩ = some (.int .i64 (f i)) := hc10
        clear hc10
        obtain ⟨b2, o2, rfl, hc20⟩ := (hb.below hbr) i hi1
        have hc2 : wr.cell? ⟨b2, o2 + i, none⟩ = some (.int .i64 (g i)) := hc20
        clear hc20
        cases h3 : (f i == g i)
        · have HB := hid (eqN_at hi1 (by simpa using h3) : eqN f g n n = false)
          clear HS
          have h4 : (f i != g i) = true := by simp [bne, h3]
          go_wp2
          go_quiet (fail)
          go_wp2
          go_ret
          exact ⟨by rw [HB.out]; rfl, below_drD hbr⟩
        · have HT : Hid (∀ j, j < i + 1 → f j = g j) := fun j hj => by
            rcases Nat.lt_or_ge j i with h5 | h5
            · exact HS.out j h5
            · obtain rfl : j = i := by omega
              simpa using h3
          clear HS
          have h4 : (f i != g i) = false := by simp [bne, h3]
          go_wp2
          go_quiet (fail)
          go_wp2
          go_roundw
          case rel => exact ⟨i + 1, by go_num, by omega, HT, below_drD hbr⟩
          case measure => simp [intOf]; omega
      · obtain rfl : i = n := by omega
        have t2 : decide ((i : Int) < (i : Int)) = false := by simp
        have HB := hid (eqN_all HS.out : eqN f g i i = true)
        clear HS
        go_wp2
        go_ret
        exact ⟨by rw [HB.out]; rfl, hbr⟩
  · have t1 : ((n : Int) == (m : Int)) = false := by simp; omega
    have HB := hid (eqN_len hnm : eqN f g n m = false)
    go_enter Try.func25, Try.ntmps25
    go_wp2
    go_ret
    exact ⟨by rw [HB.out]; rfl, Below.refl _ _⟩
theorem arow_own {xs ys : List Int} {u v : Value} {w : World} {B B' : Nat} (h : w.ownsRow B 3 1 u xs.length (iv xs)) (k : w.ownsRow B' 3 1 v ys.length (iv ys)) (hn : xs.length ≤ 100000) : Calls Try.prog 25 #[u, v] w fun e w' => e = .returned (.bool (xs == ys)) ∧ Below w.heap.size w w' := by
  obtain ⟨ao, ca, rfl, h1⟩ := own_iv h rfl
  obtain ⟨bo, cb, rfl, h2⟩ := own_iv k rfl
  have := arow_any ao bo _ _ ca cb _ _ w h1 h2 hn
  rwa [eqN_lists] at this
end Go.Proofs.Ytdccpbnknfffaaa
