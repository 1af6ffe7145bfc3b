/-
  Contracts: whether none is ever late (the program's two ways).
-/
import Derived.Test.YtnpbogamoanbiaaEdfBusy
import Derived.Test.YtnpbogamoanbiaaEdfPts
namespace Go.Proofs.Ytnpbogamoanbiaa
open Go.RowKit Go.Shelf
attribute [local go_sem] Oper.semAt_some
def okAt (f : Nat → TK) (n : Nat) (t : Int) : Bool := (allK t f n).2 && decide ((allK t f n).1 ≤ t)
def fitsB (f : Nat → TK) (n : Nat) : Bool := (busyR 65536 f n).2 && (pts f n (busyR 65536 f n).1.toNat (busyR 65536 f n).1).all (okAt f n)
theorem all_prefix {p : Int → Bool} {l m : List Int} (h : l <+: m) (hf : l.all p = false) : m.all p = false := by
  obtain ⟨t, rfl⟩ := h
  rw [List.all_append, hf]; rfl
set_option maxRecDepth 100000 in
set_option maxHeartbeats 2000000 in
theorem edfFits_any (ao : Option Addr) (n cap : Nat) (g : Nat → Nat → Int) (w : World) (hn : n ≤ 20) (hT : Tasks w ao n g) (hG : ∀ i, i < n → OkK (tkOf (g i))) :
    Calls Try.prog 15 #[.slice ao n cap] w fun e w' => e = .returned (.bool (fitsB (fun i => tkOf (g i)) n)) ∧ Below w.heap.size w w' := by
  obtain ⟨f, hf⟩ : ∃ f : Nat → TK, f = fun i => tkOf (g i) := ⟨_, rfl⟩
  have hHO : ∀ i, i < n → OkK (f i) := fun i hi => by rw [hf]; exact hG i hi
  have c0 := cell_new_l w (.slice ao n cap) 30
  have c1 := cell_new_l (w.alloc (.cells #[.slice ao n cap] 30)) (.bool false) 4
  simp only [World.size_alloc] at c1
  have hB0 : Below w.heap.size w ((w.alloc (.cells #[.slice ao n cap] 30)).alloc (.cells #[.bool false] 4)) := (((Below.refl _ w).alloc (Nat.le_refl _) _).alloc (by simp) _)
  obtain ⟨W0, hW0⟩ : ∃ W0, W0 = (w.alloc (.cells #[.slice ao n cap] 30)).alloc (.cells #[.bool false] 4) := ⟨_, rfl⟩
  have b0 : W0.cell? ⟨w.heap.size, 0, none⟩ = some (.slice ao n cap) := by rw [hW0]; exact cell_alloc_l _ c0.1
  have b0f : W0.frozen? ⟨w.heap.size, 0, none⟩ = false := by rw [hW0]; exact frozen_alloc_l _ c0.1 c0.2
  have b1 : W0.cell? ⟨w.heap.size + 1, 0, none⟩ = some (.bool false) := by rw [hW0]; exact c1.1
  have b1f : W0.frozen? ⟨w.heap.size + 1, 0, none⟩ = false := by rw [hW0]; exact c1.2
  have hsz0 : W0.heap.size = w.heap.size + 2 := by rw [hW0]; simp
  rw [← hW0] at hB0
  have HBU := hid (edfBusy_any ao n cap g 65536 W0 hn (hT.below hB0) hG (Int.le_refl _))
  have hFB : Hid (fitsB f n = ((busyR 65536 f n).2 && (pts f n (busyR 65536 f n).1.toNat (busyR 65536 f n).1).all (okAt f n))) := rfl
  have hbnd := hid (fun w hb => busyR_bound (most := 65536) hHO (w := w) hb)
  rw [← hf] at HBU ⊢
  have HALL := hid (fun t W (hW : Below w.heap.size w W) => edfAll_any ao n cap g t W (by omega) (hT.below hW))
  have HPTS := hid (fun (most : Int) (h0 : 0 ≤ most) (hm : most ≤ 65536) W (hW : Below w.heap.size w W) => points1_in 9 (by omega) ao n cap g most most.toNat ((W.alloc (.cells #[.int .i64 most] 3)).alloc (.cells #[.slice ao n cap] 30)) (by omega) hG h0 hm (by omega) W.heap.size (W.heap.size + 1) (by
    have := cell_new_l (W.alloc (.cells #[.int .i64 most] 3)) (.slice ao n cap) 30
    rw [World.size_alloc] at this; exact this.1) (cell_alloc_l _ (cell_new_l W (.int .i64 most) 3).1) (hT.below (hW.trans (((((Below.refl _ W).alloc (Nat.le_refl _) _).alloc (by simp) _)).mono hW.size))))
  rw [← hf] at HALL HPTS
  clear hf hHO hG hT c0 c1
  obtain ⟨⟨x, ok⟩, hx⟩ : ∃ y, busyR 65536 f n = y := ⟨_, rfl⟩
  rw [hx] at HBU hFB hbnd
  clear hx
  refine (callsIn_wide (n := 10)).1 ?_
  refine callsIn_of_wp_marks Try.func15 rfl trivial ?_ rfl
  simp only [Try.ntmps15, List.size_toArray, List.length_cons, List.length_nil, Nat.reduceAdd, Nat.reduceSub, Array.replicate_succ, Array.replicate_zero, List.push_toArray, List.append_toArray, List.nil_append, List.cons_append]
  gi_wp2
  rw [← hW0]
  refine ⟨trivial, ?_⟩
  refine (callsIn_wide.2 HBU.out).mono ?_
  rintro e w1 ⟨rfl, hb1⟩
  have hB1 := hB0.trans (hb1.mono hB0.size)
  have d0 := kept b0 hb1
  have d1 := kept b1 hb1
  have d0f := (hb1.frozen (p := ⟨w.heap.size, 0, none⟩) (cell_lt b0)).trans b0f
  have d1f := (hb1.frozen (p := ⟨w.heap.size + 1, 0, none⟩) (cell_lt b1)).trans b1f
  have hszw := hid (show w.heap.size + 2 ≤ w1.heap.size by have := hb1.size; omega)
  clear hW0 b0 b0f b1 b1f hsz0 HBU hb1 hB0
  cases ok
  · gi_wp2
    refine ⟨.bool false, ?_, by rw [hFB.out]; rfl, hB1.setCell (p := ⟨w.heap.size + 1, 0, none⟩) (by simp) _⟩
    simp [results, Try.f15, go_sem, d1]
  · obtain ⟨x0, x1⟩ := hbnd.out x rfl
    obtain ⟨L, hL⟩ : ∃ L, pts f n x.toNat x = L := ⟨_, rfl⟩
    have HSQ := hid (HPTS.out x x0 x1 w1 hB1)
    rw [hL] at HSQ hFB
    clear HPTS hL hbnd
    have hBX : Below w1.heap.size w1 ((w1.alloc (.cells #[.int .i64 x] 3)).alloc (.cells #[.slice ao n cap] 30)) := (((Below.refl _ w1).alloc (Nat.le_refl _) _).alloc (by simp) _)
    have hBL := hid (hB1.trans (hBX.mono hB1.size))
    gi_wp2_with (refine ⟨trivial, ?_⟩; gi_at_call 25; refine (callsIn_wide.2 (points_any _ _ _ _ _)).mono ?_; rintro e w' ⟨rfl, rfl⟩)
    have hszs := hszw.out
    refine wpIn_rangeFunc_ownF rfl (by omega) (gf := 32) (lb := #[.pointer (some ⟨w1.heap.size, 0, none⟩), .pointer (some ⟨w1.heap.size + 1, 0, none⟩)]) rfl trivial (enters_of Try.func32 (by kernel_rfl) rfl) HSQ.out belowK_t (belowK_b (Nat.le_refl _)) (Below.refl _ _) (fun _ => rfl)
      (fun pre W => (pre.all (okAt f n) = true ∧ W.cell? ⟨w.heap.size, 0, none⟩ = some (.slice ao n cap) ∧ W.cell? ⟨w.heap.size + 1, 0, none⟩ = some (.bool false) ∧ W.frozen? ⟨w.heap.size + 1, 0, none⟩ = false ∧ w1.heap.size + 2 ≤ W.heap.size) ∧ Below w.heap.size w W)
      (fun c pre W => (c = .ret ∧ pre.all (okAt f n) = false ∧ W.cell? ⟨w.heap.size + 1, 0, none⟩ = some (.bool false)) ∧ Below w.heap.size w W)
      (OwnFrom.and (Own.from (fun s A B row hs hg hr => ⟨hs.1, cell_kept hs.2.1 hg hr, cell_kept hs.2.2.1 hg hr, (frozen_kept hs.2.2.1 hg hr).trans hs.2.2.2.1, Nat.le_trans hs.2.2.2.2 hg.size⟩) _) (ownFrom_below (Nat.le_refl _) (by simp; omega)))
      (fun c => OwnFrom.and (Own.from (fun s A B row hs hg hr => ⟨hs.1, hs.2.1, cell_kept hs.2.2 hg hr⟩) _) (ownFrom_below (Nat.le_refl _) (by simp; omega)))
      ⟨⟨rfl, kept d0 hBX, kept d1 hBX, (hBX.frozen (p := ⟨w.heap.size + 1, 0, none⟩) (cell_lt d1)).trans d1f, by simp⟩, hBL.out⟩
      (fun y => { tmps := #[.slice ao n cap, .pointer (some ⟨w.heap.size, 0, none⟩), .pointer (some ⟨w.heap.size + 1, 0, none⟩), .int .i64 x, .bool true, .int .i64 y, undef, undef, .tuple #[.int .i64 x, .bool true], .slice ao n cap, .tuple #[.int .i64 x, .bool true], .int .i64 x, .bool true, .bool true, .bool false, .int .i64 x, .slice ao n cap, .func (.func 32) #[] #[.pointer (some ⟨w1.heap.size, 0, none⟩), .pointer (some ⟨w1.heap.size + 1, 0, none⟩)], .int .i64 y, undef, undef, undef, undef, undef, undef, undef, undef, undef, undef, undef, undef, undef], defers := [] }) ?assign ?body ?done ?stop
    case assign =>
      intro l y W K hK
      gi_wp2
      exact hK
    case body =>
      rintro l pre y W ⟨⟨h1, h2, h3, h4, h5⟩, hB⟩ _
      have h1' : 1 ≤ 10 - 1 - 1 := by omega
      have HA := hid (HALL.out y W hB)
      have HO : Hid ((pre ++ [y]).all (okAt f n) = ((allK y f n).2 && decide ((allK y f n).1 ≤ y))) := by
        show _ = _
        rw [List.all_append, h1, Bool.true_and, List.all_cons, List.all_nil, Bool.and_true]; rfl
      obtain ⟨⟨r, ok⟩, hr⟩ : ∃ z, allK y f n = z := ⟨_, rfl⟩
      rw [hr] at HA HO
      clear hr h1
      have fin : ∀ w2, Below W.heap.size W w2 → KeepsOthers W w2 ∧ w2.cell? ⟨w.heap.size + 1, 0, none⟩ = some (.bool false) ∧ w2.cell? ⟨w.heap.size, 0, none⟩ = some (.slice ao n cap) ∧ w2.frozen? ⟨w.heap.size + 1, 0, none⟩ = false := fun w2 hb2 =>
        ⟨KeepsOthers.of_grownBy (below_grownBy hb2) (fun j o e => by cases e), kept h3 hb2, kept h2 hb2, (hb2.frozen (p := ⟨w.heap.size + 1, 0, none⟩) (cell_lt h3)).trans h4⟩
      have FIN := hid fin
      clear fin
      cases ok
      · gi_wp2_with (refine ⟨trivial, ?_⟩; gi_at_call 11; refine (CallsIn.inRound l (callsIn_wide.2 HA.out)).mono ?_; rintro e w2 ⟨rfl, hb2⟩; obtain ⟨k1, k2, k3, k4⟩ := FIN.out w2 hb2)
        exact ⟨k1.trans (KeepsOthers.setCell _ _ _), ⟨rfl, by rw [HO.out]; rfl, World.cell?_setCell_same' _ _ _ (by rw [k2]; rfl)⟩, (hB.trans (hb2.mono hB.size)).setCell (p := ⟨w.heap.size + 1, 0, none⟩) (by simp) _⟩
      · by_cases hle : r ≤ y
        · have t1 : decide (y < r) = false := by simpa using hle
          have HOT : Hid ((pre ++ [y]).all (okAt f n) = true) := by show _ = _; rw [HO.out]; simp [hle]
          gi_wp2_with (refine ⟨trivial, ?_⟩; gi_at_call 11; refine (CallsIn.inRound l (callsIn_wide.2 HA.out)).mono ?_; rintro e w2 ⟨rfl, hb2⟩; obtain ⟨k1, k2, k3, k4⟩ := FIN.out w2 hb2)
          exact ⟨k1, hb2.mono (by simp; omega), ⟨HOT.out, k3, k2, k4, Nat.le_trans h5 hb2.size⟩, hB.trans (hb2.mono hB.size)⟩
        · have t1 : decide (y < r) = true := by simpa using hle
          have HOT : Hid ((pre ++ [y]).all (okAt f n) = false) := by show _ = _; rw [HO.out]; simp [hle]
          gi_wp2_with (refine ⟨trivial, ?_⟩; gi_at_call 11; refine (CallsIn.inRound l (callsIn_wide.2 HA.out)).mono ?_; rintro e w2 ⟨rfl, hb2⟩; obtain ⟨k1, k2, k3, k4⟩ := FIN.out w2 hb2)
          exact ⟨k1.trans (KeepsOthers.setCell _ _ _), ⟨rfl, HOT.out, World.cell?_setCell_same' _ _ _ (by rw [k2]; rfl)⟩, (hB.trans (hb2.mono hB.size)).setCell (p := ⟨w.heap.size + 1, 0, none⟩) (by simp) _⟩
    case done =>
      rintro D ys W hD rfl ⟨⟨h1, h2, h3, h4, _⟩, hB⟩ hK
      gi_wp2
      have hK' := (KeepsOthers.setCell W ⟨w.heap.size + 1, 0, none⟩ (.bool true)).same D _ hK rfl
      refine ⟨by simp, .inl ⟨_, _, rfl, run_takeDeferred hK', ?_⟩⟩
      have e0 : (W.setCell ⟨w.heap.size + 1, 0, none⟩ (.bool true)).cell? ⟨w.heap.size + 1, 0, none⟩ = some (.bool true) := by simp [go_sem, h3]
      have g0 := cell_kept e0 (grownBy_putObj' _ D (.deferred none)) (fun r e => by cases e; exact ⟨_, hK', rfl⟩)
      refine ⟨.bool true, ?_, by rw [hFB.out, h1]; rfl, (hB.setCell (p := ⟨w.heap.size + 1, 0, none⟩) (by simp) _).trans (belowK_b (w := w) (Nat.le_refl _) _ D _ _ (by simp at hD; omega) hK' rfl rfl)⟩
      simp [results, Try.f15, go_sem, g0]
    case stop =>
      rintro D c pre W hD hpre ⟨⟨rfl, h1, h2⟩, hB⟩ hK
      gi_wp2
      refine ⟨by simp, .inl ⟨_, _, rfl, run_takeDeferred hK, ?_⟩⟩
      have g0 := cell_kept h2 (grownBy_putObj' _ D (.deferred none)) (fun r e => by cases e; exact ⟨_, hK, rfl⟩)
      refine ⟨.bool false, ?_, by rw [hFB.out, all_prefix hpre h1]; rfl, hB.trans (belowK_b (w := w) (Nat.le_refl _) W D _ _ (by simp at hD; omega) hK rfl rfl)⟩
      simp [results, Try.f15, go_sem, g0]
def firstF (x : Int) (f : Nat → TK) : Nat → Int
  | 0 => x + 1
  | k + 1 => min (firstF x f k) (f k).d
theorem firstF_le {x : Int} {f : Nat → TK} {n : Nat} : ∀ i, i < n → firstF x f n ≤ (f i).d := by
  induction n with
  | zero => intro i hi; omega
  | succ n ih =>
    intro i hi
    rcases (show i < n ∨ i = n by omega) with h | rfl
    · have := ih i h
      show min _ _ ≤ _
      omega
    · show min _ _ ≤ _
      omega
theorem firstF_bound {x : Int} {f : Nat → TK} {n : Nat} (hO : ∀ i, i < n → OkK (f i)) (hx : 0 ≤ x) : 1 ≤ firstF x f n ∧ firstF x f n ≤ x + 1 := by
  induction n with
  | zero => show 1 ≤ x + 1 ∧ x + 1 ≤ x + 1; omega
  | succ n ih =>
    have := ih fun i hi => hO i (by omega)
    have := (hO n (by omega)).d1
    show 1 ≤ min _ _ ∧ min _ _ ≤ _
    omega
def quickB (f : Nat → TK) (n : Nat) : Bool := (busyR 65536 f n).2 && quick (firstF (busyR 65536 f n).1 f n) f n (busyR 65536 f n).1.toNat (nextP (busyR 65536 f n).1 f n)
theorem quick_zero {first : Int} {f : Nat → TK} {n k : Nat} {a : Int} (h : a ≤ 0) : quick first f n k a = true := by
  cases k with
  | zero => rfl
  | succ k => simp only [quick, h, if_true]
theorem quick_no {first : Int} {f : Nat → TK} {n k : Nat} {a : Int} (h : 0 < a) (h2 : a < hasN a f n) : quick first f n (k + 1) a = false := by
  simp only [quick]; rw [if_neg (by omega), if_pos h2]
theorem quick_yes {first : Int} {f : Nat → TK} {n k : Nat} {a : Int} (h : 0 < a) (h2 : hasN a f n ≤ a) (h3 : hasN a f n ≤ first) : quick first f n (k + 1) a = true := by
  simp only [quick]; rw [if_neg (by omega), if_neg (by omega), if_pos h3]
theorem quick_has {first : Int} {f : Nat → TK} {n k : Nat} {a : Int} (h : 0 < a) (h2 : hasN a f n < a) (h3 : first < hasN a f n) : quick first f n (k + 1) a = quick first f n k (hasN a f n) := by
  simp only [quick]; rw [if_neg (by omega), if_neg (by omega), if_neg (by omega), if_pos h2]
theorem quick_last {first : Int} {f : Nat → TK} {n k : Nat} {a : Int} (h : 0 < a) (h2 : hasN a f n = a) (h3 : first < hasN a f n) : quick first f n (k + 1) a = quick first f n k (nextP (a - 1) f n) := by
  simp only [quick]; rw [if_neg (by omega), if_neg (by omega), if_neg (by omega), if_neg (by omega)]
set_option maxRecDepth 100000 in
set_option maxHeartbeats 2000000 in
theorem edfQuick_any (ao : Option Addr) (n cap : Nat) (g : Nat → Nat → Int) (w : World) (hn : n ≤ 20) (hT : Tasks w ao n g) (hG : ∀ i, i < n → OkK (tkOf (g i))) :
    Calls Try.prog 16 #[.slice ao n cap] w fun e w' => e = .returned (.bool (quickB (fun i => tkOf (g i)) n)) ∧ Below w.heap.size w w' := by
  obtain ⟨f, hf⟩ : ∃ f : Nat → TK, f = fun i => tkOf (g i) := ⟨_, rfl⟩
  have hHO : ∀ i, i < n → OkK (f i) := fun i hi => by rw [hf]; exact hG i hi
  have HO := hid hHO
  have HFK := hid (show ∀ k, f k = tkOf (g k) from fun k => by rw [hf])
  have HBU := hid (edfBusy_any ao n cap g 65536 w hn hT hG (Int.le_refl _))
  have hFB : Hid (quickB f n = ((busyR 65536 f n).2 && quick (firstF (busyR 65536 f n).1 f n) f n (busyR 65536 f n).1.toNat (nextP (busyR 65536 f n).1 f n))) := rfl
  have hbnd := hid (fun w hb => busyR_bound (most := 65536) hHO (w := w) hb)
  rw [← hf] at HBU ⊢
  have HALL := hid (fun t W (hW : Below w.heap.size w W) (h0 : 0 ≤ t) (ht : t ≤ 65536) => show Calls Try.prog 11 #[.int .i64 t, .slice ao n cap] W fun e w' => e = .returned (.tuple #[.int .i64 (hasN t f n), .bool true]) ∧ Below W.heap.size W w' from by
    have := edfAll_any ao n cap g t W (by omega) (hT.below hW)
    rw [← hf, allK_ok hHO h0 ht hn] at this
    exact this)
  have HLAST := hid (fun t W (hW : Below w.heap.size w W) (h0 : 0 ≤ t) (ht : t ≤ 65536) => edfLast_any ao n cap g t W (by omega) (hT.below hW) hG h0 ht)
  rw [← hf] at HLAST
  clear hf hHO hG
  obtain ⟨⟨x, ok⟩, hx⟩ : ∃ y, busyR 65536 f n = y := ⟨_, rfl⟩
  rw [hx] at HBU hFB hbnd
  clear hx
  go_enter Try.func16, Try.ntmps16
  go_wp2_with fail
  refine HBU.out.mono ?_
  rintro e w1 ⟨rfl, B1⟩
  cases ok
  · go_wp2
    go_ret
    exact ⟨by rw [hFB.out]; rfl, B1⟩
  · obtain ⟨x0, x1⟩ := hbnd.out x rfl
    clear hbnd HBU
    have HFI := hid (fun (k : Nat) (hk : k ≤ n) => firstF_bound (fun i hi => HO.out i (by omega) : ∀ i, i < k → OkK (f i)) x0)
    go_wp2
    go_loopw [5, 22] (fun v i wr => ∃ k : Nat, k ≤ n ∧ i = .int .i64 k ∧ v = .int .i64 (firstF x f k) ∧ Below w.heap.size w wr) (fun _ i _ => n - (intOf i).toNat)
    case atStart => exact ⟨0, Nat.zero_le _, rfl, rfl, B1⟩
    case round =>
      obtain ⟨k, hk, rfl, rfl, B2⟩ := hrel
      have hfk := HFI.out k hk
      by_cases hlt : k < n
      · obtain ⟨b, o, rfl, hbl⟩ := hT.form hlt
        obtain ⟨⟨c0, c1, c2, c3⟩, ⟨c4, c5, c6, c7⟩, c8, c9, c10⟩ := (hT.below B2).at_ hlt
        have t1 : decide ((k : Int) < (n : Int)) = true := by simp; omega
        have HS := hid (show firstF x f (k + 1) = min (firstF x f k) (g k 1) by show min _ (f k).d = _; rw [HFK.out]; rfl)
        obtain ⟨z, hz⟩ : ∃ z, firstF x f k = z := ⟨_, rfl⟩
        rw [hz] at HS hfk ⊢
        clear hz
        have B3 := B2.alloc B2.size (Obj.cells #[Value.int .i64 (g k 0), Value.int .i64 (g k 1), Value.int .i64 (g k 2), Value.int .i64 (g k 3), Value.int .i64 (g k 4), Value.int .i64 (g k 5), Value.int .i64 (g k 6), Value.int .i64 (g k 7), Value.int .i64 (g k 8), Value.int .i64 (g k 9), Value.int .i64 (g k 10)] 24)
        rcases Int.lt_or_le (g k 1) z with h | h
        all_goals
          go_wp2
          go_roundw
          case rel => exact ⟨k + 1, by omega, by go_num, by rw [HS.out]; congr 1; omega, B3⟩
          case measure => simp [intOf]; omega
      · obtain rfl : k = n := by omega
        have t1 : decide ((k : Int) < (k : Int)) = false := by simp
        obtain ⟨fi, hfi⟩ : ∃ z, firstF x f k = z := ⟨_, rfl⟩
        rw [hfi] at hfk hFB ⊢
        clear hfi HFI
        have hlp := nextP_last (a := x) HO.out
        have hp0 := nextP_nonneg (a := x) HO.out
        have hp1 := nextP_le HO.out x0
        have HL := hid (HLAST.out x wr B2 x0 x1)
        obtain ⟨R, hR⟩ : ∃ R, quick fi f k x.toNat (nextP x f k) = R := ⟨_, rfl⟩
        have HR := hid hR
        rw [hR] at hFB
        obtain ⟨y, hy⟩ : ∃ y, nextP x f k = y := ⟨_, rfl⟩
        rw [hy] at HR HL hp0 hp1
        clear hR hlp hy
        go_wp2_with fail
        refine HL.out.mono ?_
        rintro e w2 ⟨rfl, hb2⟩
        have B4 := B2.trans (hb2.mono B2.size)
        clear HL
        go_wp2
        go_loopw [8] (fun v wr => ∃ (a : Int) (m : Nat), v = .int .i64 a ∧ 0 ≤ a ∧ a ≤ m ∧ a ≤ 65536 ∧ Hid (quick fi f k m a = R) ∧ Below w.heap.size w wr) (fun v _ => (intOf v).toNat)
        case atStart => exact ⟨y, x.toNat, rfl, hp0, by omega, by omega, HR, B4⟩
        case round =>
          obtain ⟨a, m, rfl, ha0, ham, ha1, HQ, B5⟩ := hrel
          clear HR
          by_cases hpos : 0 < a
          · have t2 : decide (0 < a) = true := by simpa using hpos
            obtain ⟨m', rfl⟩ : ∃ m', m = m' + 1 := ⟨m - 1, by omega⟩
            have HA := hid (HALL.out a wr B5 ha0 ha1)
            have hh0 := hasN_nonneg (t := a) HO.out
            rcases (show a < hasN a f k ∨ (hasN a f k ≤ a ∧ hasN a f k ≤ fi) ∨ (hasN a f k < a ∧ fi < hasN a f k) ∨ (hasN a f k = a ∧ fi < hasN a f k) by omega) with h | ⟨h, h2⟩ | ⟨h, h2⟩ | ⟨h, h2⟩
            · have HE := hid (quick_no (first := fi) (k := m') hpos h)
              obtain ⟨z, hz⟩ : ∃ z, hasN a f k = z := ⟨_, rfl⟩
              rw [hz] at HA h hh0
              clear hz
              go_wp2_with fail
              refine HA.out.mono ?_
              rintro e w3 ⟨rfl, hb3⟩
              have B6 := B5.trans (hb3.mono B5.size)
              go_wp2
              go_ret
              exact ⟨by rw [hFB.out, ← HQ.out, HE.out]; rfl, B6⟩
            · have HE := hid (quick_yes (first := fi) (k := m') hpos h h2)
              obtain ⟨z, hz⟩ : ∃ z, hasN a f k = z := ⟨_, rfl⟩
              rw [hz] at HA h h2 hh0
              clear hz
              have t3 : decide (a < z) = false := by simpa using h
              go_wp2_with fail
              refine HA.out.mono ?_
              rintro e w3 ⟨rfl, hb3⟩
              have B6 := B5.trans (hb3.mono B5.size)
              go_wp2
              go_ret
              exact ⟨by rw [hFB.out, ← HQ.out, HE.out]; rfl, B6⟩
            · have HE := hid (quick_has (k := m') hpos h h2)
              have HQ2 : Hid (quick fi f k m' (hasN a f k) = R) := by show _ = _; rw [← HE.out]; exact HQ.out
              obtain ⟨z, hz⟩ : ∃ z, hasN a f k = z := ⟨_, rfl⟩
              rw [hz] at HA h h2 hh0 HQ2
              clear hz HE HQ
              have t3 : decide (a < z) = false := by simp; omega
              have t4 : decide (z ≤ fi) = false := by simpa using h2
              go_wp2_with fail
              refine HA.out.mono ?_
              rintro e w3 ⟨rfl, hb3⟩
              have B6 := B5.trans (hb3.mono B5.size)
              go_wp2
              go_roundw
              case rel => exact ⟨z, m', rfl, hh0, by omega, by omega, HQ2, B6⟩
              case measure => simp [intOf]; omega
            · have HE := hid (quick_last (k := m') hpos h h2)
              have HQ2 : Hid (quick fi f k m' (nextP (a - 1) f k) = R) := by show _ = _; rw [← HE.out]; exact HQ.out
              have hz0 := nextP_nonneg (a := a - 1) HO.out
              have hz1 := nextP_le HO.out (show 0 ≤ a - 1 by omega)
              rw [h] at HA h2
              have HLA := hid (fun W hW => HLAST.out (a - 1) W hW (by omega) (by omega))
              obtain ⟨z, hz⟩ : ∃ z, nextP (a - 1) f k = z := ⟨_, rfl⟩
              rw [hz] at HLA hz0 hz1 HQ2
              clear hz HE HQ h hh0
              have t3 : decide (a < a) = false := by simp
              have t4 : decide (a ≤ fi) = false := by simpa using h2
              go_wp2_with fail
              refine HA.out.mono ?_
              rintro e w3 ⟨rfl, hb3⟩
              have B6 := B5.trans (hb3.mono B5.size)
              go_wp2_with fail
              refine (HLA.out _ B6).mono ?_
              rintro e w4 ⟨rfl, hb4⟩
              have B7 := B6.trans (hb4.mono B6.size)
              go_wp2
              go_roundw
              case rel => exact ⟨z, m', rfl, hz0, by omega, by omega, HQ2, B7⟩
              case measure => simp [intOf]; omega
          · have HE := hid (quick_zero (first := fi) (f := f) (n := k) (k := m) (a := a) (by omega))
            have t2 : decide (0 < a) = false := by simp; omega
            go_wp2
            go_ret
            exact ⟨by rw [hFB.out, ← HQ.out, HE.out]; rfl, B5⟩
end Go.Proofs.Ytnpbogamoanbiaa
