/-
  QueuePlays' own step: what is there behind a call.
-/
import Derived.Test.YtgelgpcpllmnkaaQueueTake
import Derived.Test.YtgelgpcpllmnkaaFree
import Derived.Laws.AppendOwnNone
namespace Go.Proofs.Ytgelgpcpllmnkaa
open Go.RowKit
def lastF (xs : List Int) (m : Nat) : List Int := if m < xs.length then xs.drop (xs.length - m) else xs
/-- What is there behind a call, its error, what it answers, how many were dropped. -/
def stepF (cap : Nat) (pol : Int) (xs : List Int) (r : Nat) (n : Int) (L : List Int) : List Int × Int × Int × Int :=
  if r = 3 then (match xs with | [] => ([], 270, 0, 0) | x :: rest => (rest, 0, x, 0))
  else if r = 4 then (lastF (xs ++ L) cap, 0, ((xs ++ L).length - (lastF (xs ++ L) cap).length : Nat), ((xs ++ L).length - (lastF (xs ++ L) cap).length : Nat))
  else if xs.length = cap ∧ pol = 1 then (xs, 271, 0, 0) else if xs.length = cap ∧ pol = 3 then (xs, 0, 0, 1)
  else (lastF (xs ++ [n]) cap, 0, 0, ((xs ++ [n]).length - (lastF (xs ++ [n]) cap).length : Nat))
theorem kind_mod (kd : Int) : ∃ r : Nat, r < 5 ∧ (kd.tmod 5 + 5).tmod 5 = (r : Int) ∧ kd % 5 = (r : Int) := by
  refine ⟨(kd % 5).toNat, by omega, ?_, by omega⟩
  have h1 : -5 < kd.tmod 5 ∧ kd.tmod 5 < 5 := by
    have := Int.tmod_lt_of_pos kd (show (0 : Int) < 5 by decide)
    have h2 := Int.tmod_lt_of_pos (-kd) (show (0 : Int) < 5 by decide)
    rw [Int.neg_tmod] at h2
    omega
  have h3 : kd = 5 * kd.tdiv 5 + kd.tmod 5 := (Int.mul_tdiv_add_tmod kd 5).symm
  rw [Int.tmod_eq_emod_of_nonneg (by omega)]
  omega
/-- A row that is read: a value of a slice, whoever owns it. -/
def Reads (W : World) (v : Value) (xs : List Int) : Prop := ∃ ao c, v = .slice ao xs.length c ∧ xs.length ≤ c ∧ c ≤ maxLen ∧ Row W ao xs.length (fun i => .int .i64 (xs.getD i 0)) ∧ (ao = none → c = 0) ∧ (∀ g, v.ownBlock = some g → g < W.heap.size)
/-- One's own block is the elder's or a new one. -/
def StepP (v0 : Value) (r : List Int × Int × Int × Int) (w : World) (e : Ending) (w' : World) : Prop :=
  ∃ v, e = .returned (.tuple #[v, .int .i64 r.2.1, .int .i64 r.2.2.1, .int .i64 r.2.2.2]) ∧ Reads w' v r.1 ∧ Heir w v0 v ∧ Below w.heap.size w w'
theorem reads_own {W : World} {B : Nat} {v : Value} {xs : List Int} (h : W.ownsRow B 3 1 v xs.length (vi xs)) : Reads W v xs := by
  obtain ⟨ao, c, e, h1, h2, h3, _⟩ := vi_view h
  refine ⟨ao, c, e, h1, h2, h3, fun hn => ?_, fun g hg => (h.lt g hg).2⟩
  rcases h.2 with ⟨h4, _⟩ | ⟨g, cap, _, h4, _⟩
  · rw [e] at h4; simp only [Value.slice.injEq] at h4; exact h4.2.2
  · rw [e, hn] at h4; cases h4
/-- An append of a row that is read, nil or not. -/
theorem wpList_append_row {w : World} {ops : Array Oper} {rest : List Oper} {o : Oper} {a : Act} {Q : Exit → Act → World → Prop} (hgd : o.guard = none) (s x : Operand) (ho : o.op = .call { callee := .builtin .append, args := #[s, x], argTypes := #[25, 25] })
    (base : Nat) (v : Value) (n : Nat) (ys : List Int) (hn : ys.length = n) (hs : a.eval s = v) (hown : w.ownsRow base 3 1 v n (vi ys)) (xo : Option Addr) (xc : Nat) (zs : List Int) (hx : a.eval x = .slice xo zs.length xc)
    (hrow : Row w xo zs.length (fun i => .int .i64 (zs.getD i 0))) (hnil : xo = none → xc = 0) (hl : n + zs.length ≤ 100000) (hB : base ≤ w.heap.size)
    (h : ∀ v' w', w'.ownsRow base 3 1 v' (ys ++ zs).length (vi (ys ++ zs)) → w.grownBy w' v.ownBlock → wpList Try.prog ops Q rest (a.put o.dst v') w') : wpList Try.prog ops Q (o :: rest) a w := by
  obtain ⟨i0, hi, hz0, hz1, hz2⟩ := info_parts infoInt
  subst hn
  cases xo with
  | none =>
    have hz : zs = [] := by
      cases zs with
      | nil => rfl
      | cons z zs => obtain ⟨b, o, e, _⟩ := hrow 0 (by simp); cases e
    subst hz
    obtain rfl := hnil rfl
    refine wpList_append_own_none hgd s x 25 ho base 3 i0 1 Try.underlying25 hi v _ _ hs hown hx ?_
    exact h v w (by rw [List.append_nil]; exact hown) ⟨rfl, rfl, rfl, Nat.le_refl _, fun _ _ _ => rfl⟩
  | some ad =>
    refine wpList_append_own _ hgd s x 25 ho base 3 i0 (.int .i64 0) 1 8 Try.underlying25 hi hz0 hz1 hz2 rfl (by decide) v _ _ hs hown ad zs.length xc (vi zs) hx (by rw [vi_length]; omega) (fun j u hj => ?_) (vi_one _) (by unfold maxLen; omega) (by omega) hB ?_
    · have hjl : j < zs.length := by
        have := (List.getElem?_eq_some_iff.1 hj).1
        rwa [vi_length] at this
      obtain ⟨b, o, e, hc⟩ := hrow j hjl
      cases e
      rw [add_off, hc, ← hj]
      simp [vi, List.getD, hjl]
    · intro v' w' h1 h2 _
      exact h v' w' (by rw [List.length_append, vi_append]; exact h1) h2
theorem heir_own {w W : World} {v0 v : Value} {n : Nat} {xs : List Value} {e : TypeId} (h : W.ownsRow w.heap.size e 1 v n xs) : Heir w v0 v := fun g hg => .inr (h.lt g hg).1
/-- The law's last, whichever way it goes. -/
theorem last_any (B m : Nat) (v : Value) (xs : List Int) (w : World) (h : w.ownsRow B 3 1 v xs.length (vi xs)) (hx : xs.length ≤ 100000) (hm : 0 < m) (hB : B ≤ w.heap.size) :
    Calls Try.prog 18 #[v, .int .i64 m] w fun e w' => ∃ v', e = .returned v' ∧ w'.ownsRow B 3 1 v' (lastF xs m).length (vi (lastF xs m)) ∧ Below w.heap.size w w' := by
  obtain ⟨ao, c, rfl, h1, h2, h3, _⟩ := vi_view h
  by_cases hl : m < xs.length
  · refine (last_cut ao c m xs w h3 h1 h2 hx hm hl).mono ?_
    rintro e w' ⟨v', he, ho, hb⟩
    rw [show lastF xs m = xs.drop (xs.length - m) from if_pos hl]
    exact ⟨v', he, own_base ho hB, hb⟩
  · refine (last_same ao xs.length c m w (by omega)).mono ?_
    rintro e w' ⟨he, rfl⟩
    rw [show lastF xs m = xs from if_neg hl]
    exact ⟨_, he, h, Below.refl _ _⟩
attribute [local go_sem] stillAt
set_option maxRecDepth 100000 in
set_option maxHeartbeats 1000000 in
theorem step_any (cap : Nat) (pol kd n : Int) (v : Value) (xs L : List Int) (lo : Option Addr) (lc r : Nat) (w : World) (hv : Reads w v xs) (hL : Row w lo L.length (fun i => .int .i64 (L.getD i 0))) (_hlc : L.length ≤ lc) (_hlm : lc ≤ maxLen) (hln : lo = none → lc = 0) (hr : (kd.tmod 5 + 5).tmod 5 = (r : Int)) (hr5 : r < 5)
    (hcap : 1 ≤ cap ∧ cap ≤ 16) (hx : xs.length ≤ cap) (hLl : L.length ≤ 30) :
    Calls Try.prog 23 #[.agg #[.int .i64 cap, .int .i64 pol], v, .agg #[.int .i64 kd, .int .i64 n, .slice lo L.length lc]] w fun e w' => StepP v (stepF cap pol xs r n L) w e w' := by
  obtain ⟨i0, hi, hz0, hz1, hz2⟩ := info_parts infoInt
  obtain ⟨ao, c, rfl, hxc, hxm, hrow, hxn, hub⟩ := hv
  have HUB := hid hub
  clear hub
  have hB := ((Below.refl w.heap.size w).alloc (Nat.le_refl _) (Obj.cells #[.int .i64 cap, .int .i64 pol] 24)).alloc (by simp) (Obj.cells #[.int .i64 kd, .int .i64 n, .slice lo L.length lc] 41)
  have hset : ((w.alloc (Obj.cells #[.int .i64 cap, .int .i64 pol] 24)).alloc (Obj.cells #[.int .i64 kd, .int .i64 n, .slice lo L.length lc] 41)).heap[w.heap.size]? = some (Obj.cells #[.int .i64 cap, .int .i64 pol] 24) := ((Save.alloc _ _).block _ (by rw [World.size_alloc]; omega) id).trans (heap_alloc_new w _)
  have hop : ((w.alloc (Obj.cells #[.int .i64 cap, .int .i64 pol] 24)).alloc (Obj.cells #[.int .i64 kd, .int .i64 n, .slice lo L.length lc] 41)).heap[w.heap.size + 1]? = some (Obj.cells #[.int .i64 kd, .int .i64 n, .slice lo L.length lc] 41) := by
    have := heap_alloc_new (w.alloc (Obj.cells #[.int .i64 cap, .int .i64 pol] 24)) (Obj.cells #[.int .i64 kd, .int .i64 n, .slice lo L.length lc] 41)
    rwa [World.size_alloc] at this
  go_enter Try.func23, Try.ntmps23
  obtain ⟨W, hW⟩ : ∃ W, W = (w.alloc (Obj.cells #[.int .i64 cap, .int .i64 pol] 24)).alloc (Obj.cells #[.int .i64 kd, .int .i64 n, .slice lo L.length lc] 41) := ⟨_, rfl⟩
  rw [← hW] at hB hset hop
  have HW := hid hW
  clear hW
  have s0 : W.cell? ⟨w.heap.size, 0, none⟩ = some (.int .i64 cap) := blk_cell hset 0
  have s1 : W.cell? ⟨w.heap.size, 1, none⟩ = some (.int .i64 pol) := blk_cell hset 1
  have p0 : W.cell? ⟨w.heap.size + 1, 0, none⟩ = some (.int .i64 kd) := blk_cell hop 0
  have p1 : W.cell? ⟨w.heap.size + 1, 1, none⟩ = some (.int .i64 n) := blk_cell hop 1
  have p2 : W.cell? ⟨w.heap.size + 1, 2, none⟩ = some (.slice lo L.length lc) := blk_cell hop 2
  have hrowW := hrow.below hB
  have hLW := hL.below hB
  have hw : wrap64 (kd.tmod 5 + 5) = kd.tmod 5 + 5 := by
    have h1 := Int.tmod_lt_of_pos kd (show (0 : Int) < 5 by decide)
    have h2 := Int.tmod_lt_of_pos (-kd) (show (0 : Int) < 5 by decide)
    rw [Int.neg_tmod] at h2
    unfold wrap64; omega
  by_cases r3 : r = 3
  · subst r3
    have hr3 : (kd.tmod 5 + 5).tmod 5 = 3 := hr
    clear hr
    cases xs with
    | nil =>
      have HS : Hid (stepF cap pol [] 3 n L = ([], 270, 0, 0)) := rfl
      rw [HW.out] at s0 s1 p0 p1 p2 hB
      simp only [List.length_nil]
      go_wp2
      refine bodyPost_ret (v := .tuple #[.slice ao 0 c, .int .i64 270, .int .i64 0, .int .i64 0]) (by simp [results, Try.results23, go_sem]) rfl ?_
      rw [HS.out]
      exact ⟨_, rfl, ⟨ao, c, rfl, Nat.zero_le _, hxm, fun i hi => (by cases hi), hxn, fun g hg => Nat.lt_of_lt_of_le (HUB.out g hg) hB.size⟩, fun g hg => .inl hg, hB⟩
    | cons x rest =>
      have HS : Hid (stepF cap pol (x :: rest) 3 n L = (rest, 0, x, 0)) := rfl
      obtain ⟨m, hm⟩ : ∃ m, (x :: rest).length = m := ⟨_, rfl⟩
      have hm1 : 1 ≤ m := by rw [← hm]; simp
      rw [hm] at hxc hrow hrowW hx ⊢
      have tm : ((m : Int) == 0) = false := beq_eq_false_iff_ne.2 (by omega)
      have HM := hid hm
      clear hm
      rw [HW.out] at s0 s1 p0 p1 p2
      go_wp2
      rw [← HW.out]
      obtain ⟨b, o, rfl, _⟩ := hrow 0 (by omega)
      have hx0 : W.cell? ⟨b, o, none⟩ = some (.int .i64 x) := hrowW.cellAt (i := 0) (by omega)
      refine wp_region_chain [0, 3, 7, 8, 9, 10] (fun X => Below W.heap.size W X) (by kernel_rfl) (by kernel_rfl) (by exact (Below.refl W.heap.size W).trans ⟨rfl, rfl, rfl, Nat.le_refl _, fun _ _ => rfl⟩) ?_
      repeat (first | refine wpFl_chain (by rfl) ?_ | (refine wpFl_still (by rfl) (by rfl) (fun K hK => ?_); go_simp; (refine ⟨_, fun _ _ => rfl, hK _ ?_⟩; clear hK K)))
      obtain ⟨ad, had⟩ : ∃ ad, (if c = 1 then some (⟨b, o, none⟩ : Addr) else some ⟨b, o + 1, none⟩) = some ad := by split <;> exact ⟨_, rfl⟩
      have hadm : 1 < m → ad = ⟨b, o + 1, none⟩ := fun h => by rw [if_neg (by omega)] at had; exact (Option.some.inj had).symm
      refine wpFl_still (by rfl) (by rfl) (fun K hK => ?_)
      go_simp
      refine ⟨.slice (some ad) (m - 1) (c - 1), fun X _ => by rw [if_pos (by omega)], hK _ ?_⟩
      clear hK K
      repeat (first | refine wpFl_chain (by rfl) ?_ | (refine wpFl_still (by rfl) (by rfl) (fun K hK => ?_); go_simp; (refine ⟨_, fun _ _ => rfl, hK _ ?_⟩; clear hK K)))
      refine wpFl_still (by rfl) (by rfl) (fun K hK => ?_)
      go_simp
      refine ⟨.pointer (some ⟨b, o, none⟩), fun X _ => by rw [if_pos (by omega)], hK _ ?_⟩
      clear hK K
      refine wpFl_still (by rfl) (by rfl) (fun K hK => ?_)
      go_simp
      refine ⟨.int .i64 x, fun X hX => by rw [(hX.cell (cell_lt hx0)).trans hx0]; rfl, hK _ ?_⟩
      clear hK K
      repeat refine wpFl_chain (by rfl) ?_
      refine wpFl_nil ?_
      have b1 : Below W.heap.size W ((W.alloc (Obj.cells #[] 3)).drew) := ((Below.refl W.heap.size W).alloc (Nat.le_refl _) _).trans ⟨rfl, rfl, rfl, Nat.le_refl _, fun _ _ => rfl⟩
      refine wpTl_on (by rfl) (fun K hK => ?_)
      go_wp2_with fail
      refine hK _ _ b1 ?_
      clear hK K
      obtain ⟨W1, hW1⟩ : ∃ W1, W1 = (W.alloc (Obj.cells #[] 3)).drew := ⟨_, rfl⟩
      have eo : W1.ownsRow W.heap.size 3 1 (.slice (some ⟨W.heap.size, 0, none⟩) 0 0) 0 [] := by rw [hW1]; exact World.ownsRow_made (w := W) #[] 0 (Nat.le_refl _) (Nat.zero_le _) rfl
      rw [← hW1] at b1 ⊢
      clear hW1
      have hvl : (vi rest).length = (m - 1) * 1 := by rw [vi_length]; have := HM.out; simp at this; omega
      have hnews : ∀ (j : Nat) (u : Value), (vi rest)[j]? = some u → W1.cell? (ad.add j) = some u := fun j u hj => by
        have hjl : j < rest.length := by
          have := (List.getElem?_eq_some_iff.1 hj).1
          rwa [vi_length] at this
        rw [vi_length] at hvl
        have := (hrowW.below b1).cellAt (i := 1 + j) (by omega)
        rw [hadm (by omega), add_off, Nat.add_assoc, this, ← hj, Nat.add_comm 1 j]
        simp [vi, List.getD, hjl]
      refine wpTl_on (by rfl) (fun K hK => ?_)
      refine wpList_append_own _ rfl _ _ 25 rfl W.heap.size 3 i0 (.int .i64 0) 1 8 Try.underlying25 hi hz0 hz1 hz2 rfl (by decide) (.slice (some ⟨W.heap.size, 0, none⟩) 0 0) 0 [] rfl eo ad (m - 1) _ (vi rest) rfl hvl hnews (vi_one _) (by unfold maxLen; omega) (by omega) b1.size ?_
      intro v3 W3 hown3 hgrow _
      have b3 := b1.grown hgrow b1.size fun j hj => (eo.lt j hj).1
      refine hK _ _ b3 ?_
      go_simp
      clear hK K
      refine wpTl_on (by rfl) (fun K hK => ?_)
      go_wp2_with fail
      refine hK _ _ b3 ?_
      clear hK K
      refine wpTl_on (by rfl) (fun K hK => ?_)
      go_wp2_with fail
      refine hK _ _ b3 ?_
      clear hK K
      refine wpTl_on (by rfl) (fun K hK => ?_)
      go_wp2_with fail
      refine hK _ _ b3 ?_
      clear hK K
      refine wpTl_on (by rfl) (fun K hK => ?_)
      go_wp2_with fail
      refine hK _ _ b3 ?_
      clear hK K
      refine wpTl_nil ?_
      go_wp2
      refine bodyPost_ret (v := .tuple #[v3, .int .i64 0, .int .i64 x, .int .i64 0]) (by simp [results, Try.results23, go_sem]) rfl ?_
      rw [HS.out]
      have hown3' : W3.ownsRow W.heap.size 3 1 v3 rest.length (vi rest) := by
        rw [Nat.zero_add, List.nil_append] at hown3
        rw [vi_length, Nat.mul_one] at hvl
        rw [hvl]; exact hown3
      exact ⟨v3, rfl, reads_own hown3', fun g hg => .inr (Nat.le_trans hB.size (hown3'.lt g hg).1), hB.trans (b3.mono hB.size)⟩
  · by_cases r4 : r = 4
    · subst r4
      have hr4 : (kd.tmod 5 + 5).tmod 5 = 4 := hr
      clear hr
      have HS : Hid (stepF cap pol xs 4 n L = (lastF (xs ++ L) cap, 0, (((xs ++ L).length - (lastF (xs ++ L) cap).length : Nat) : Int), (((xs ++ L).length - (lastF (xs ++ L) cap).length : Nat) : Int))) := rfl
      have s0W := s0
      have p2W := p2
      rw [HW.out] at s0 s1 p0 p1 p2
      go_wp2
      rw [← HW.out]
      refine wp_region_chain [0, 2, 5, 6] (fun X => Below W.heap.size W X) (by kernel_rfl) (by kernel_rfl) (by exact (Below.refl W.heap.size W).trans ⟨rfl, rfl, rfl, Nat.le_refl _, fun _ _ => rfl⟩) ?_
      repeat (first | refine wpFl_chain (by rfl) ?_ | (refine wpFl_still (by rfl) (by rfl) (fun K hK => ?_); go_simp; (refine ⟨_, fun _ _ => rfl, hK _ ?_⟩; clear hK K)))
      refine wpFl_still (by rfl) (by rfl) (fun K hK => ?_)
      go_simp
      refine ⟨.slice lo L.length lc, fun X hX => by rw [(hX.cell (cell_lt p2W)).trans p2W]; rfl, hK _ ?_⟩
      clear hK K
      repeat refine wpFl_chain (by rfl) ?_
      refine wpFl_nil ?_
      have b1 : Below W.heap.size W ((W.alloc (Obj.cells #[] 3)).drew) := ((Below.refl W.heap.size W).alloc (Nat.le_refl _) _).trans ⟨rfl, rfl, rfl, Nat.le_refl _, fun _ _ => rfl⟩
      refine wpTl_on (by rfl) (fun K hK => ?_)
      go_wp2_with fail
      refine hK _ _ b1 ?_
      clear hK K
      obtain ⟨W1, hW1⟩ : ∃ W1, W1 = (W.alloc (Obj.cells #[] 3)).drew := ⟨_, rfl⟩
      have eo : W1.ownsRow W.heap.size 3 1 (.slice (some ⟨W.heap.size, 0, none⟩) 0 0) 0 (vi []) := by rw [hW1]; exact World.ownsRow_made (w := W) #[] 0 (Nat.le_refl _) (Nat.zero_le _) rfl
      rw [← hW1] at b1 ⊢
      clear hW1
      refine wpTl_on (by rfl) (fun K hK => ?_)
      refine wpList_append_row rfl _ _ rfl W.heap.size (.slice (some ⟨W.heap.size, 0, none⟩) 0 0) 0 [] rfl rfl eo ao c xs rfl (hrowW.below b1) hxn (by omega) b1.size ?_
      intro v3 W3 hown3 hgrow3
      rw [List.nil_append] at hown3
      have b3 := b1.grown hgrow3 b1.size fun j hj => (eo.lt j hj).1
      refine hK _ _ b3 ?_
      go_simp
      clear hK K
      refine wpTl_on (by rfl) (fun K hK => ?_)
      refine wpList_append_row rfl _ _ rfl W.heap.size v3 xs.length xs rfl rfl hown3 lo lc L rfl (hLW.below b3) hln (by omega) b3.size ?_
      intro v4 W4 hown4 hgrow4
      have b4 := b3.grown hgrow4 b3.size fun j hj => (hown3.lt j hj).1
      refine hK _ _ b4 ?_
      go_simp
      clear hK K
      refine wpTl_on (by rfl) (fun K hK => ?_)
      go_wp2_with fail
      refine hK _ _ b4 ?_
      clear hK K
      refine wpTl_nil ?_
      have s4 := (b4.cell (cell_lt s0W)).trans s0W
      have HLA := hid (last_any W.heap.size cap v4 (xs ++ L) W4 hown4 (by rw [List.length_append]; omega) (by omega) b4.size)
      have HLE : (lastF (xs ++ L) cap).length ≤ (xs ++ L).length := by unfold lastF; split <;> simp
      have hAl : (xs ++ L).length ≤ 100 := by rw [List.length_append]; omega
      obtain ⟨A, hA⟩ : ∃ A, xs ++ L = A := ⟨_, rfl⟩
      rw [hA] at HLA HLE hown4 HS hAl
      clear hA
      obtain ⟨va4, vc4, rfl, _, _, _, _⟩ := vi_view hown4
      go_wp2_with fail
      refine HLA.out.mono ?_
      rintro e W5 ⟨v5, rfl, hown5, hb5⟩
      have b5 := b4.trans (hb5.mono b4.size)
      obtain ⟨D, hD⟩ : ∃ D, lastF A cap = D := ⟨_, rfl⟩
      rw [hD] at hown5 HS HLE
      obtain ⟨va5, vc5, rfl, _, _, _, _⟩ := vi_view hown5
      have hsub : (A.length : Int) - (D.length : Int) = ((A.length - D.length : Nat) : Int) := by omega
      go_wp2_with fail
      refine bodyPost_ret (v := .tuple #[.slice va5 D.length vc5, .int .i64 0, .int .i64 ((A.length - D.length : Nat) : Int), .int .i64 ((A.length - D.length : Nat) : Int)]) (by simp [results, Try.results23, go_sem]) rfl ?_
      rw [HS.out]
      exact ⟨_, rfl, reads_own hown5, fun g hg => .inr (Nat.le_trans hB.size (hown5.lt g hg).1), hB.trans (b5.mono hB.size)⟩
    · have hr3 : (((r : Int)) == 3) = false := beq_eq_false_iff_ne.2 (by omega)
      have hr4 : (((r : Int)) == 4) = false := beq_eq_false_iff_ne.2 (by omega)
      by_cases f1 : xs.length = cap ∧ pol = 1
      · have HS := hid (show stepF cap pol xs r n L = (xs, 271, 0, 0) by unfold stepF; rw [if_neg r3, if_neg r4, if_pos f1])
        have tf : ((xs.length : Int) == (cap : Int)) = true := by simp [f1.1]
        have tp : (pol == 1) = true := by simp [f1.2]
        rw [HW.out] at s0 s1 p0 p1 p2
        have HF := hid f1
        clear f1
        go_wp2
        refine bodyPost_ret (v := .tuple #[.slice ao xs.length c, .int .i64 271, .int .i64 0, .int .i64 0]) (by simp [results, Try.results23, go_sem]) rfl ?_
        rw [HS.out]
        rw [HW.out] at hB hrowW
        exact ⟨_, rfl, ⟨ao, c, rfl, hxc, hxm, hrowW, hxn, fun g hg => Nat.lt_of_lt_of_le (HUB.out g hg) hB.size⟩, fun g hg => .inl hg, hB⟩
      · by_cases f2 : xs.length = cap ∧ pol = 3
        · have HS := hid (show stepF cap pol xs r n L = (xs, 0, 0, 1) by unfold stepF; rw [if_neg r3, if_neg r4, if_neg f1, if_pos f2])
          have tf : ((xs.length : Int) == (cap : Int)) = true := by simp [f2.1]
          have tp : (pol == 1) = false := by simp [f2.2]
          have tq : (pol == 3) = true := by simp [f2.2]
          rw [HW.out] at s0 s1 p0 p1 p2
          have HF := hid f2
          clear f1 f2
          go_wp2
          refine bodyPost_ret (v := .tuple #[.slice ao xs.length c, .int .i64 0, .int .i64 0, .int .i64 1]) (by simp [results, Try.results23, go_sem]) rfl ?_
          rw [HS.out]
          rw [HW.out] at hB hrowW
          exact ⟨_, rfl, ⟨ao, c, rfl, hxc, hxm, hrowW, hxn, fun g hg => Nat.lt_of_lt_of_le (HUB.out g hg) hB.size⟩, fun g hg => .inl hg, hB⟩
        · have HS := hid (show stepF cap pol xs r n L = (lastF (xs ++ [n]) cap, 0, 0, (((xs ++ [n]).length - (lastF (xs ++ [n]) cap).length : Nat) : Int)) by unfold stepF; rw [if_neg r3, if_neg r4, if_neg f1, if_neg f2])
          have key : ((xs.length : Int) == (cap : Int)) = false ∨ ((xs.length : Int) == (cap : Int)) = true ∧ (pol == 1) = false ∧ (pol == 3) = false := by
            by_cases hf : xs.length = cap
            · exact .inr ⟨by simp [hf], by simp; exact fun h => f1 ⟨hf, h⟩, by simp; exact fun h => f2 ⟨hf, h⟩⟩
            · exact .inl (beq_eq_false_iff_ne.2 (by omega))
          clear f1 f2
          rcases key with tf | ⟨tf, tp, tq⟩
          · have s0W := s0
            have p1W := p1
            rw [HW.out] at s0 s1 p0 p1 p2
            go_wp2
            rw [← HW.out]
            refine wp_region_free [0, 2, 5, 6, 7] (fun X => Below W.heap.size W X) (by kernel_rfl) (by kernel_rfl) (by exact (Below.refl W.heap.size W).trans ⟨rfl, rfl, rfl, Nat.le_refl _, fun _ _ => rfl⟩) ?_
            repeat (first | refine wpFl_chain (by rfl) ?_ | (refine wpFl_still (by rfl) (by rfl) (fun K hK => ?_); go_simp; (refine ⟨_, fun _ _ => rfl, hK _ ?_⟩; clear hK K)))
            refine wpFl_still (by rfl) (by rfl) (fun K hK => ?_)
            go_simp
            refine ⟨.int .i64 n, fun X hX => by rw [(hX.cell (cell_lt p1W)).trans p1W]; rfl, hK _ ?_⟩
            clear hK K
            repeat refine wpFl_chain (by rfl) ?_
            refine wpFl_nil ?_
            show wpTs _ _ _ _ 5 _ _ _
            refine wpTs_2 (i := 0) (j := 5) (rem1 := [2, 5, 6, 7]) (rem2 := [0, 2, 6, 7]) (by kernel_rfl) (by rfl) (by rfl) (by rfl) (by rfl) (fun K hK => ?_) (fun K hK => ?_)
            · go_wp2_with fail
              refine hK _ _ (((Below.refl W.heap.size W).alloc (Below.refl W.heap.size W).size _).trans ⟨rfl, rfl, rfl, Nat.le_refl _, fun _ _ => rfl⟩) ?_
              clear hK K
              obtain ⟨Y1, hX⟩ : ∃ X, X = (W.alloc (Obj.cells #[] 3)).drew := ⟨_, rfl⟩
              have by1 : Below W.heap.size W Y1 := by rw [hX]; exact ((Below.refl W.heap.size W).alloc (Below.refl W.heap.size W).size _).trans ⟨rfl, rfl, rfl, Nat.le_refl _, fun _ _ => rfl⟩
              have hs1 : Hid (Y1.heap.size = W.heap.size + 1) := by rw [hX]; exact World.size_alloc W _
              have eo1 : Y1.ownsRow W.heap.size 3 1 (.slice (some ⟨W.heap.size, 0, none⟩) 0 0) 0 (vi []) := by rw [hX]; exact World.ownsRow_made (w := W) #[] 0 (Below.refl W.heap.size W).size (Nat.zero_le _) rfl
              rw [← hX]
              clear hX
              refine wpTs_2 (i := 2) (j := 5) (rem1 := [5, 6, 7]) (rem2 := [2, 6, 7]) (by kernel_rfl) (by rfl) (by rfl) (by rfl) (by rfl) (fun K hK => ?_) (fun K hK => ?_)
              · refine wpList_append_row rfl _ _ rfl W.heap.size (.slice (some ⟨W.heap.size, 0, none⟩) 0 0) 0 [] rfl rfl eo1 ao c xs rfl (hrowW.below by1) hxn (by omega) by1.size ?_
                intro v3 Y2 h2_2 hgrow2
                rw [List.nil_append] at h2_2
                have by2 := by1.grown hgrow2 by1.size fun j hj => (eo1.lt j hj).1
                refine hK _ _ by2 ?_
                go_simp
                clear hK K
                refine wpTs_1 (i := 5) (rem1 := [6, 7]) (by kernel_rfl) (by rfl) (by rfl) (fun K hK => ?_)
                go_wp2_with fail
                refine hK _ _ (by2.alloc by2.size _) ?_
                clear hK K
                obtain ⟨Y3, hX⟩ : ∃ X, X = (Y2.alloc (Obj.cells #[Value.int .i64 n] 3)) := ⟨_, rfl⟩
                have by3 : Below W.heap.size W Y3 := by rw [hX]; exact by2.alloc by2.size _
                have hs3 : Hid (Y3.heap.size = Y2.heap.size + 1) := by rw [hX]; exact World.size_alloc Y2 _
                have cx3 : Y3.cell? ⟨Y2.heap.size, 0, none⟩ = some (.int .i64 n) := by rw [hX]; show (Y2.alloc _).cell? _ = _; exact World.cell?_alloc_at _ _ _ _ rfl
                have h2x3 := h2_2.alloc (Obj.cells #[Value.int .i64 n] 3)
                rw [show Y2.alloc (Obj.cells #[Value.int .i64 n] 3) = Y3 from hX.symm] at h2x3
                rw [← hX]
                clear hX
                refine wpTs_1 (i := 6) (rem1 := [7]) (by kernel_rfl) (by rfl) (by rfl) (fun K hK => ?_)
                have hrx : Row Y3 (some ⟨Y2.heap.size, 0, none⟩) [n].length (fun i => .int .i64 ([n].getD i 0)) := fun i hi => by
                  obtain rfl : i = 0 := by simp at hi; omega
                  exact ⟨_, 0, rfl, cx3⟩
                refine wpList_append_row rfl _ _ rfl W.heap.size v3 xs.length xs rfl rfl h2x3 (some ⟨Y2.heap.size, 0, none⟩) 1 [n] rfl hrx (fun e => by cases e) (by simp; omega) by3.size ?_
                intro v4 Y4 hown4 hgrow4
                have by4 := by3.grown hgrow4 by3.size fun j hj => (h2x3.lt j hj).1
                refine hK _ _ by4 ?_
                go_simp
                clear hK K
                refine wpTs_1 (i := 7) (rem1 := []) (by kernel_rfl) (by rfl) (by rfl) (fun K hK => ?_)
                go_wp2_with fail
                refine hK _ _ by4 ?_
                clear hK K
                refine wpTs_0 ?_
                have s4 := (by4.cell (cell_lt s0W)).trans s0W
                have HLA := hid (last_any W.heap.size cap v4 (xs ++ [n]) Y4 hown4 (by rw [List.length_append]; simp; omega) (by omega) by4.size)
                have HLE : (lastF (xs ++ [n]) cap).length ≤ (xs ++ [n]).length := by unfold lastF; split <;> simp
                have hAl : (xs ++ [n]).length ≤ 100 := by rw [List.length_append]; simp; omega
                obtain ⟨A, hA⟩ : ∃ A, xs ++ [n] = A := ⟨_, rfl⟩
                rw [hA] at HLA HLE hown4 HS hAl
                clear hA
                obtain ⟨va4, vc4, rfl, _, _, _, _⟩ := vi_view hown4
                go_wp2_with fail
                refine HLA.out.mono ?_
                rintro e W5 ⟨v5, rfl, hown5, hb5⟩
                have b5 := by4.trans (hb5.mono by4.size)
                obtain ⟨D, hD⟩ : ∃ D, lastF A cap = D := ⟨_, rfl⟩
                rw [hD] at hown5 HS HLE
                obtain ⟨va5, vc5, rfl, _, _, _, _⟩ := vi_view hown5
                have hsub : (A.length : Int) - (D.length : Int) = ((A.length - D.length : Nat) : Int) := by omega
                go_wp2_with fail
                refine bodyPost_ret (v := .tuple #[.slice va5 D.length vc5, .int .i64 0, .int .i64 0, .int .i64 ((A.length - D.length : Nat) : Int)]) (by simp [results, Try.results23, go_sem]) rfl ?_
                rw [HS.out]
                exact ⟨_, rfl, reads_own hown5, fun g hg => .inr (Nat.le_trans hB.size (hown5.lt g hg).1), hB.trans (b5.mono hB.size)⟩
              · go_wp2_with fail
                refine hK _ _ (by1.alloc by1.size _) ?_
                clear hK K
                obtain ⟨Y2, hX⟩ : ∃ X, X = (Y1.alloc (Obj.cells #[Value.int .i64 n] 3)) := ⟨_, rfl⟩
                have by2 : Below W.heap.size W Y2 := by rw [hX]; exact by1.alloc by1.size _
                have hs2 : Hid (Y2.heap.size = Y1.heap.size + 1) := by rw [hX]; exact World.size_alloc Y1 _
                have cx2 : Y2.cell? ⟨Y1.heap.size, 0, none⟩ = some (.int .i64 n) := by rw [hX]; show (Y1.alloc _).cell? _ = _; exact World.cell?_alloc_at _ _ _ _ rfl
                have eox2 := eo1.alloc (Obj.cells #[Value.int .i64 n] 3)
                rw [show Y1.alloc (Obj.cells #[Value.int .i64 n] 3) = Y2 from hX.symm] at eox2
                rw [← hX]
                clear hX
                refine wpTs_1 (i := 2) (rem1 := [6, 7]) (by kernel_rfl) (by rfl) (by rfl) (fun K hK => ?_)
                refine wpList_append_row rfl _ _ rfl W.heap.size (.slice (some ⟨W.heap.size, 0, none⟩) 0 0) 0 [] rfl rfl eox2 ao c xs rfl (hrowW.below by2) hxn (by omega) by2.size ?_
                intro v3 Y3 h2_3 hgrow3
                rw [List.nil_append] at h2_3
                have by3 := by2.grown hgrow3 by2.size fun j hj => (eox2.lt j hj).1
                refine hK _ _ by3 ?_
                go_simp
                clear hK K
                have cx3 : Y3.cell? ⟨Y1.heap.size, 0, none⟩ = some (.int .i64 n) := hgrow3.cell cx2 fun e => by have := hs1.out; simp [Value.ownBlock] at e; omega
                refine wpTs_1 (i := 6) (rem1 := [7]) (by kernel_rfl) (by rfl) (by rfl) (fun K hK => ?_)
                have hrx : Row Y3 (some ⟨Y1.heap.size, 0, none⟩) [n].length (fun i => .int .i64 ([n].getD i 0)) := fun i hi => by
                  obtain rfl : i = 0 := by simp at hi; omega
                  exact ⟨_, 0, rfl, cx3⟩
                refine wpList_append_row rfl _ _ rfl W.heap.size v3 xs.length xs rfl rfl h2_3 (some ⟨Y1.heap.size, 0, none⟩) 1 [n] rfl hrx (fun e => by cases e) (by simp; omega) by3.size ?_
                intro v4 Y4 hown4 hgrow4
                have by4 := by3.grown hgrow4 by3.size fun j hj => (h2_3.lt j hj).1
                refine hK _ _ by4 ?_
                go_simp
                clear hK K
                refine wpTs_1 (i := 7) (rem1 := []) (by kernel_rfl) (by rfl) (by rfl) (fun K hK => ?_)
                go_wp2_with fail
                refine hK _ _ by4 ?_
                clear hK K
                refine wpTs_0 ?_
                have s4 := (by4.cell (cell_lt s0W)).trans s0W
                have HLA := hid (last_any W.heap.size cap v4 (xs ++ [n]) Y4 hown4 (by rw [List.length_append]; simp; omega) (by omega) by4.size)
                have HLE : (lastF (xs ++ [n]) cap).length ≤ (xs ++ [n]).length := by unfold lastF; split <;> simp
                have hAl : (xs ++ [n]).length ≤ 100 := by rw [List.length_append]; simp; omega
                obtain ⟨A, hA⟩ : ∃ A, xs ++ [n] = A := ⟨_, rfl⟩
                rw [hA] at HLA HLE hown4 HS hAl
                clear hA
                obtain ⟨va4, vc4, rfl, _, _, _, _⟩ := vi_view hown4
                go_wp2_with fail
                refine HLA.out.mono ?_
                rintro e W5 ⟨v5, rfl, hown5, hb5⟩
                have b5 := by4.trans (hb5.mono by4.size)
                obtain ⟨D, hD⟩ : ∃ D, lastF A cap = D := ⟨_, rfl⟩
                rw [hD] at hown5 HS HLE
                obtain ⟨va5, vc5, rfl, _, _, _, _⟩ := vi_view hown5
                have hsub : (A.length : Int) - (D.length : Int) = ((A.length - D.length : Nat) : Int) := by omega
                go_wp2_with fail
                refine bodyPost_ret (v := .tuple #[.slice va5 D.length vc5, .int .i64 0, .int .i64 0, .int .i64 ((A.length - D.length : Nat) : Int)]) (by simp [results, Try.results23, go_sem]) rfl ?_
                rw [HS.out]
                exact ⟨_, rfl, reads_own hown5, fun g hg => .inr (Nat.le_trans hB.size (hown5.lt g hg).1), hB.trans (b5.mono hB.size)⟩
            · go_wp2_with fail
              refine hK _ _ (((Below.refl W.heap.size W).alloc (Below.refl W.heap.size W).size _).trans ⟨rfl, rfl, rfl, Nat.le_refl _, fun _ _ => rfl⟩) ?_
              clear hK K
              obtain ⟨Y1, hX⟩ : ∃ X, X = (W.alloc (Obj.cells #[Value.int .i64 n] 3)).drew := ⟨_, rfl⟩
              have by1 : Below W.heap.size W Y1 := by rw [hX]; exact ((Below.refl W.heap.size W).alloc (Below.refl W.heap.size W).size _).trans ⟨rfl, rfl, rfl, Nat.le_refl _, fun _ _ => rfl⟩
              have hs1 : Hid (Y1.heap.size = W.heap.size + 1) := by rw [hX]; exact World.size_alloc W _
              have cx1 : Y1.cell? ⟨W.heap.size, 0, none⟩ = some (.int .i64 n) := by rw [hX]; show (W.alloc _).cell? _ = _; exact World.cell?_alloc_at _ _ _ _ rfl
              rw [← hX]
              clear hX
              refine wpTs_1 (i := 0) (rem1 := [2, 6, 7]) (by kernel_rfl) (by rfl) (by rfl) (fun K hK => ?_)
              go_wp2_with fail
              refine hK _ _ (by1.alloc by1.size _) ?_
              clear hK K
              obtain ⟨Y2, hX⟩ : ∃ X, X = (Y1.alloc (Obj.cells #[] 3)) := ⟨_, rfl⟩
              have by2 : Below W.heap.size W Y2 := by rw [hX]; exact by1.alloc by1.size _
              have hs2 : Hid (Y2.heap.size = Y1.heap.size + 1) := by rw [hX]; exact World.size_alloc Y1 _
              have eo2 : Y2.ownsRow W.heap.size 3 1 (.slice (some ⟨Y1.heap.size, 0, none⟩) 0 0) 0 (vi []) := by rw [hX]; exact World.ownsRow_made (w := Y1) #[] 0 by1.size (Nat.zero_le _) rfl
              have cx2 : Y2.cell? ⟨W.heap.size, 0, none⟩ = some (.int .i64 n) := by rw [hX]; exact cell_alloc cx1 _
              rw [← hX]
              clear hX
              refine wpTs_1 (i := 2) (rem1 := [6, 7]) (by kernel_rfl) (by rfl) (by rfl) (fun K hK => ?_)
              refine wpList_append_row rfl _ _ rfl W.heap.size (.slice (some ⟨Y1.heap.size, 0, none⟩) 0 0) 0 [] rfl rfl eo2 ao c xs rfl (hrowW.below by2) hxn (by omega) by2.size ?_
              intro v3 Y3 h2_3 hgrow3
              rw [List.nil_append] at h2_3
              have by3 := by2.grown hgrow3 by2.size fun j hj => (eo2.lt j hj).1
              refine hK _ _ by3 ?_
              go_simp
              clear hK K
              have cx3 : Y3.cell? ⟨W.heap.size, 0, none⟩ = some (.int .i64 n) := hgrow3.cell cx2 fun e => by have := hs1.out; simp [Value.ownBlock] at e; omega
              refine wpTs_1 (i := 6) (rem1 := [7]) (by kernel_rfl) (by rfl) (by rfl) (fun K hK => ?_)
              have hrx : Row Y3 (some ⟨W.heap.size, 0, none⟩) [n].length (fun i => .int .i64 ([n].getD i 0)) := fun i hi => by
                obtain rfl : i = 0 := by simp at hi; omega
                exact ⟨_, 0, rfl, cx3⟩
              refine wpList_append_row rfl _ _ rfl W.heap.size v3 xs.length xs rfl rfl h2_3 (some ⟨W.heap.size, 0, none⟩) 1 [n] rfl hrx (fun e => by cases e) (by simp; omega) by3.size ?_
              intro v4 Y4 hown4 hgrow4
              have by4 := by3.grown hgrow4 by3.size fun j hj => (h2_3.lt j hj).1
              refine hK _ _ by4 ?_
              go_simp
              clear hK K
              refine wpTs_1 (i := 7) (rem1 := []) (by kernel_rfl) (by rfl) (by rfl) (fun K hK => ?_)
              go_wp2_with fail
              refine hK _ _ by4 ?_
              clear hK K
              refine wpTs_0 ?_
              have s4 := (by4.cell (cell_lt s0W)).trans s0W
              have HLA := hid (last_any W.heap.size cap v4 (xs ++ [n]) Y4 hown4 (by rw [List.length_append]; simp; omega) (by omega) by4.size)
              have HLE : (lastF (xs ++ [n]) cap).length ≤ (xs ++ [n]).length := by unfold lastF; split <;> simp
              have hAl : (xs ++ [n]).length ≤ 100 := by rw [List.length_append]; simp; omega
              obtain ⟨A, hA⟩ : ∃ A, xs ++ [n] = A := ⟨_, rfl⟩
              rw [hA] at HLA HLE hown4 HS hAl
              clear hA
              obtain ⟨va4, vc4, rfl, _, _, _, _⟩ := vi_view hown4
              go_wp2_with fail
              refine HLA.out.mono ?_
              rintro e W5 ⟨v5, rfl, hown5, hb5⟩
              have b5 := by4.trans (hb5.mono by4.size)
              obtain ⟨D, hD⟩ : ∃ D, lastF A cap = D := ⟨_, rfl⟩
              rw [hD] at hown5 HS HLE
              obtain ⟨va5, vc5, rfl, _, _, _, _⟩ := vi_view hown5
              have hsub : (A.length : Int) - (D.length : Int) = ((A.length - D.length : Nat) : Int) := by omega
              go_wp2_with fail
              refine bodyPost_ret (v := .tuple #[.slice va5 D.length vc5, .int .i64 0, .int .i64 0, .int .i64 ((A.length - D.length : Nat) : Int)]) (by simp [results, Try.results23, go_sem]) rfl ?_
              rw [HS.out]
              exact ⟨_, rfl, reads_own hown5, fun g hg => .inr (Nat.le_trans hB.size (hown5.lt g hg).1), hB.trans (b5.mono hB.size)⟩
          · have s0W := s0
            have p1W := p1
            rw [HW.out] at s0 s1 p0 p1 p2
            go_wp2
            rw [← HW.out]
            refine wp_region_free [0, 2, 5, 6, 7] (fun X => Below W.heap.size W X) (by kernel_rfl) (by kernel_rfl) (by exact (Below.refl W.heap.size W).trans ⟨rfl, rfl, rfl, Nat.le_refl _, fun _ _ => rfl⟩) ?_
            repeat (first | refine wpFl_chain (by rfl) ?_ | (refine wpFl_still (by rfl) (by rfl) (fun K hK => ?_); go_simp; (refine ⟨_, fun _ _ => rfl, hK _ ?_⟩; clear hK K)))
            refine wpFl_still (by rfl) (by rfl) (fun K hK => ?_)
            go_simp
            refine ⟨.int .i64 n, fun X hX => by rw [(hX.cell (cell_lt p1W)).trans p1W]; rfl, hK _ ?_⟩
            clear hK K
            repeat refine wpFl_chain (by rfl) ?_
            refine wpFl_nil ?_
            show wpTs _ _ _ _ 5 _ _ _
            refine wpTs_2 (i := 0) (j := 5) (rem1 := [2, 5, 6, 7]) (rem2 := [0, 2, 6, 7]) (by kernel_rfl) (by rfl) (by rfl) (by rfl) (by rfl) (fun K hK => ?_) (fun K hK => ?_)
            · go_wp2_with fail
              refine hK _ _ (((Below.refl W.heap.size W).alloc (Below.refl W.heap.size W).size _).trans ⟨rfl, rfl, rfl, Nat.le_refl _, fun _ _ => rfl⟩) ?_
              clear hK K
              obtain ⟨Y1, hX⟩ : ∃ X, X = (W.alloc (Obj.cells #[] 3)).drew := ⟨_, rfl⟩
              have by1 : Below W.heap.size W Y1 := by rw [hX]; exact ((Below.refl W.heap.size W).alloc (Below.refl W.heap.size W).size _).trans ⟨rfl, rfl, rfl, Nat.le_refl _, fun _ _ => rfl⟩
              have hs1 : Hid (Y1.heap.size = W.heap.size + 1) := by rw [hX]; exact World.size_alloc W _
              have eo1 : Y1.ownsRow W.heap.size 3 1 (.slice (some ⟨W.heap.size, 0, none⟩) 0 0) 0 (vi []) := by rw [hX]; exact World.ownsRow_made (w := W) #[] 0 (Below.refl W.heap.size W).size (Nat.zero_le _) rfl
              rw [← hX]
              clear hX
              refine wpTs_2 (i := 2) (j := 5) (rem1 := [5, 6, 7]) (rem2 := [2, 6, 7]) (by kernel_rfl) (by rfl) (by rfl) (by rfl) (by rfl) (fun K hK => ?_) (fun K hK => ?_)
              · refine wpList_append_row rfl _ _ rfl W.heap.size (.slice (some ⟨W.heap.size, 0, none⟩) 0 0) 0 [] rfl rfl eo1 ao c xs rfl (hrowW.below by1) hxn (by omega) by1.size ?_
                intro v3 Y2 h2_2 hgrow2
                rw [List.nil_append] at h2_2
                have by2 := by1.grown hgrow2 by1.size fun j hj => (eo1.lt j hj).1
                refine hK _ _ by2 ?_
                go_simp
                clear hK K
                refine wpTs_1 (i := 5) (rem1 := [6, 7]) (by kernel_rfl) (by rfl) (by rfl) (fun K hK => ?_)
                go_wp2_with fail
                refine hK _ _ (by2.alloc by2.size _) ?_
                clear hK K
                obtain ⟨Y3, hX⟩ : ∃ X, X = (Y2.alloc (Obj.cells #[Value.int .i64 n] 3)) := ⟨_, rfl⟩
                have by3 : Below W.heap.size W Y3 := by rw [hX]; exact by2.alloc by2.size _
                have hs3 : Hid (Y3.heap.size = Y2.heap.size + 1) := by rw [hX]; exact World.size_alloc Y2 _
                have cx3 : Y3.cell? ⟨Y2.heap.size, 0, none⟩ = some (.int .i64 n) := by rw [hX]; show (Y2.alloc _).cell? _ = _; exact World.cell?_alloc_at _ _ _ _ rfl
                have h2x3 := h2_2.alloc (Obj.cells #[Value.int .i64 n] 3)
                rw [show Y2.alloc (Obj.cells #[Value.int .i64 n] 3) = Y3 from hX.symm] at h2x3
                rw [← hX]
                clear hX
                refine wpTs_1 (i := 6) (rem1 := [7]) (by kernel_rfl) (by rfl) (by rfl) (fun K hK => ?_)
                have hrx : Row Y3 (some ⟨Y2.heap.size, 0, none⟩) [n].length (fun i => .int .i64 ([n].getD i 0)) := fun i hi => by
                  obtain rfl : i = 0 := by simp at hi; omega
                  exact ⟨_, 0, rfl, cx3⟩
                refine wpList_append_row rfl _ _ rfl W.heap.size v3 xs.length xs rfl rfl h2x3 (some ⟨Y2.heap.size, 0, none⟩) 1 [n] rfl hrx (fun e => by cases e) (by simp; omega) by3.size ?_
                intro v4 Y4 hown4 hgrow4
                have by4 := by3.grown hgrow4 by3.size fun j hj => (h2x3.lt j hj).1
                refine hK _ _ by4 ?_
                go_simp
                clear hK K
                refine wpTs_1 (i := 7) (rem1 := []) (by kernel_rfl) (by rfl) (by rfl) (fun K hK => ?_)
                go_wp2_with fail
                refine hK _ _ by4 ?_
                clear hK K
                refine wpTs_0 ?_
                have s4 := (by4.cell (cell_lt s0W)).trans s0W
                have HLA := hid (last_any W.heap.size cap v4 (xs ++ [n]) Y4 hown4 (by rw [List.length_append]; simp; omega) (by omega) by4.size)
                have HLE : (lastF (xs ++ [n]) cap).length ≤ (xs ++ [n]).length := by unfold lastF; split <;> simp
                have hAl : (xs ++ [n]).length ≤ 100 := by rw [List.length_append]; simp; omega
                obtain ⟨A, hA⟩ : ∃ A, xs ++ [n] = A := ⟨_, rfl⟩
                rw [hA] at HLA HLE hown4 HS hAl
                clear hA
                obtain ⟨va4, vc4, rfl, _, _, _, _⟩ := vi_view hown4
                go_wp2_with fail
                refine HLA.out.mono ?_
                rintro e W5 ⟨v5, rfl, hown5, hb5⟩
                have b5 := by4.trans (hb5.mono by4.size)
                obtain ⟨D, hD⟩ : ∃ D, lastF A cap = D := ⟨_, rfl⟩
                rw [hD] at hown5 HS HLE
                obtain ⟨va5, vc5, rfl, _, _, _, _⟩ := vi_view hown5
                have hsub : (A.length : Int) - (D.length : Int) = ((A.length - D.length : Nat) : Int) := by omega
                go_wp2_with fail
                refine bodyPost_ret (v := .tuple #[.slice va5 D.length vc5, .int .i64 0, .int .i64 0, .int .i64 ((A.length - D.length : Nat) : Int)]) (by simp [results, Try.results23, go_sem, hsub]) rfl ?_
                rw [HS.out]
                exact ⟨_, rfl, reads_own hown5, fun g hg => .inr (Nat.le_trans hB.size (hown5.lt g hg).1), hB.trans (b5.mono hB.size)⟩
              · go_wp2_with fail
                refine hK _ _ (by1.alloc by1.size _) ?_
                clear hK K
                obtain ⟨Y2, hX⟩ : ∃ X, X = (Y1.alloc (Obj.cells #[Value.int .i64 n] 3)) := ⟨_, rfl⟩
                have by2 : Below W.heap.size W Y2 := by rw [hX]; exact by1.alloc by1.size _
                have hs2 : Hid (Y2.heap.size = Y1.heap.size + 1) := by rw [hX]; exact World.size_alloc Y1 _
                have cx2 : Y2.cell? ⟨Y1.heap.size, 0, none⟩ = some (.int .i64 n) := by rw [hX]; show (Y1.alloc _).cell? _ = _; exact World.cell?_alloc_at _ _ _ _ rfl
                have eox2 := eo1.alloc (Obj.cells #[Value.int .i64 n] 3)
                rw [show Y1.alloc (Obj.cells #[Value.int .i64 n] 3) = Y2 from hX.symm] at eox2
                rw [← hX]
                clear hX
                refine wpTs_1 (i := 2) (rem1 := [6, 7]) (by kernel_rfl) (by rfl) (by rfl) (fun K hK => ?_)
                refine wpList_append_row rfl _ _ rfl W.heap.size (.slice (some ⟨W.heap.size, 0, none⟩) 0 0) 0 [] rfl rfl eox2 ao c xs rfl (hrowW.below by2) hxn (by omega) by2.size ?_
                intro v3 Y3 h2_3 hgrow3
                rw [List.nil_append] at h2_3
                have by3 := by2.grown hgrow3 by2.size fun j hj => (eox2.lt j hj).1
                refine hK _ _ by3 ?_
                go_simp
                clear hK K
                have cx3 : Y3.cell? ⟨Y1.heap.size, 0, none⟩ = some (.int .i64 n) := hgrow3.cell cx2 fun e => by have := hs1.out; simp [Value.ownBlock] at e; omega
                refine wpTs_1 (i := 6) (rem1 := [7]) (by kernel_rfl) (by rfl) (by rfl) (fun K hK => ?_)
                have hrx : Row Y3 (some ⟨Y1.heap.size, 0, none⟩) [n].length (fun i => .int .i64 ([n].getD i 0)) := fun i hi => by
                  obtain rfl : i = 0 := by simp at hi; omega
                  exact ⟨_, 0, rfl, cx3⟩
                refine wpList_append_row rfl _ _ rfl W.heap.size v3 xs.length xs rfl rfl h2_3 (some ⟨Y1.heap.size, 0, none⟩) 1 [n] rfl hrx (fun e => by cases e) (by simp; omega) by3.size ?_
                intro v4 Y4 hown4 hgrow4
                have by4 := by3.grown hgrow4 by3.size fun j hj => (h2_3.lt j hj).1
                refine hK _ _ by4 ?_
                go_simp
                clear hK K
                refine wpTs_1 (i := 7) (rem1 := []) (by kernel_rfl) (by rfl) (by rfl) (fun K hK => ?_)
                go_wp2_with fail
                refine hK _ _ by4 ?_
                clear hK K
                refine wpTs_0 ?_
                have s4 := (by4.cell (cell_lt s0W)).trans s0W
                have HLA := hid (last_any W.heap.size cap v4 (xs ++ [n]) Y4 hown4 (by rw [List.length_append]; simp; omega) (by omega) by4.size)
                have HLE : (lastF (xs ++ [n]) cap).length ≤ (xs ++ [n]).length := by unfold lastF; split <;> simp
                have hAl : (xs ++ [n]).length ≤ 100 := by rw [List.length_append]; simp; omega
                obtain ⟨A, hA⟩ : ∃ A, xs ++ [n] = A := ⟨_, rfl⟩
                rw [hA] at HLA HLE hown4 HS hAl
                clear hA
                obtain ⟨va4, vc4, rfl, _, _, _, _⟩ := vi_view hown4
                go_wp2_with fail
                refine HLA.out.mono ?_
                rintro e W5 ⟨v5, rfl, hown5, hb5⟩
                have b5 := by4.trans (hb5.mono by4.size)
                obtain ⟨D, hD⟩ : ∃ D, lastF A cap = D := ⟨_, rfl⟩
                rw [hD] at hown5 HS HLE
                obtain ⟨va5, vc5, rfl, _, _, _, _⟩ := vi_view hown5
                have hsub : (A.length : Int) - (D.length : Int) = ((A.length - D.length : Nat) : Int) := by omega
                go_wp2_with fail
                refine bodyPost_ret (v := .tuple #[.slice va5 D.length vc5, .int .i64 0, .int .i64 0, .int .i64 ((A.length - D.length : Nat) : Int)]) (by simp [results, Try.results23, go_sem, hsub]) rfl ?_
                rw [HS.out]
                exact ⟨_, rfl, reads_own hown5, fun g hg => .inr (Nat.le_trans hB.size (hown5.lt g hg).1), hB.trans (b5.mono hB.size)⟩
            · go_wp2_with fail
              refine hK _ _ (((Below.refl W.heap.size W).alloc (Below.refl W.heap.size W).size _).trans ⟨rfl, rfl, rfl, Nat.le_refl _, fun _ _ => rfl⟩) ?_
              clear hK K
              obtain ⟨Y1, hX⟩ : ∃ X, X = (W.alloc (Obj.cells #[Value.int .i64 n] 3)).drew := ⟨_, rfl⟩
              have by1 : Below W.heap.size W Y1 := by rw [hX]; exact ((Below.refl W.heap.size W).alloc (Below.refl W.heap.size W).size _).trans ⟨rfl, rfl, rfl, Nat.le_refl _, fun _ _ => rfl⟩
              have hs1 : Hid (Y1.heap.size = W.heap.size + 1) := by rw [hX]; exact World.size_alloc W _
              have cx1 : Y1.cell? ⟨W.heap.size, 0, none⟩ = some (.int .i64 n) := by rw [hX]; show (W.alloc _).cell? _ = _; exact World.cell?_alloc_at _ _ _ _ rfl
              rw [← hX]
              clear hX
              refine wpTs_1 (i := 0) (rem1 := [2, 6, 7]) (by kernel_rfl) (by rfl) (by rfl) (fun K hK => ?_)
              go_wp2_with fail
              refine hK _ _ (by1.alloc by1.size _) ?_
              clear hK K
              obtain ⟨Y2, hX⟩ : ∃ X, X = (Y1.alloc (Obj.cells #[] 3)) := ⟨_, rfl⟩
              have by2 : Below W.heap.size W Y2 := by rw [hX]; exact by1.alloc by1.size _
              have hs2 : Hid (Y2.heap.size = Y1.heap.size + 1) := by rw [hX]; exact World.size_alloc Y1 _
              have eo2 : Y2.ownsRow W.heap.size 3 1 (.slice (some ⟨Y1.heap.size, 0, none⟩) 0 0) 0 (vi []) := by rw [hX]; exact World.ownsRow_made (w := Y1) #[] 0 by1.size (Nat.zero_le _) rfl
              have cx2 : Y2.cell? ⟨W.heap.size, 0, none⟩ = some (.int .i64 n) := by rw [hX]; exact cell_alloc cx1 _
              rw [← hX]
              clear hX
              refine wpTs_1 (i := 2) (rem1 := [6, 7]) (by kernel_rfl) (by rfl) (by rfl) (fun K hK => ?_)
              refine wpList_append_row rfl _ _ rfl W.heap.size (.slice (some ⟨Y1.heap.size, 0, none⟩) 0 0) 0 [] rfl rfl eo2 ao c xs rfl (hrowW.below by2) hxn (by omega) by2.size ?_
              intro v3 Y3 h2_3 hgrow3
              rw [List.nil_append] at h2_3
              have by3 := by2.grown hgrow3 by2.size fun j hj => (eo2.lt j hj).1
              refine hK _ _ by3 ?_
              go_simp
              clear hK K
              have cx3 : Y3.cell? ⟨W.heap.size, 0, none⟩ = some (.int .i64 n) := hgrow3.cell cx2 fun e => by have := hs1.out; simp [Value.ownBlock] at e; omega
              refine wpTs_1 (i := 6) (rem1 := [7]) (by kernel_rfl) (by rfl) (by rfl) (fun K hK => ?_)
              have hrx : Row Y3 (some ⟨W.heap.size, 0, none⟩) [n].length (fun i => .int .i64 ([n].getD i 0)) := fun i hi => by
                obtain rfl : i = 0 := by simp at hi; omega
                exact ⟨_, 0, rfl, cx3⟩
              refine wpList_append_row rfl _ _ rfl W.heap.size v3 xs.length xs rfl rfl h2_3 (some ⟨W.heap.size, 0, none⟩) 1 [n] rfl hrx (fun e => by cases e) (by simp; omega) by3.size ?_
              intro v4 Y4 hown4 hgrow4
              have by4 := by3.grown hgrow4 by3.size fun j hj => (h2_3.lt j hj).1
              refine hK _ _ by4 ?_
              go_simp
              clear hK K
              refine wpTs_1 (i := 7) (rem1 := []) (by kernel_rfl) (by rfl) (by rfl) (fun K hK => ?_)
              go_wp2_with fail
              refine hK _ _ by4 ?_
              clear hK K
              refine wpTs_0 ?_
              have s4 := (by4.cell (cell_lt s0W)).trans s0W
              have HLA := hid (last_any W.heap.size cap v4 (xs ++ [n]) Y4 hown4 (by rw [List.length_append]; simp; omega) (by omega) by4.size)
              have HLE : (lastF (xs ++ [n]) cap).length ≤ (xs ++ [n]).length := by unfold lastF; split <;> simp
              have hAl : (xs ++ [n]).length ≤ 100 := by rw [List.length_append]; simp; omega
              obtain ⟨A, hA⟩ : ∃ A, xs ++ [n] = A := ⟨_, rfl⟩
              rw [hA] at HLA HLE hown4 HS hAl
              clear hA
              obtain ⟨va4, vc4, rfl, _, _, _, _⟩ := vi_view hown4
              go_wp2_with fail
              refine HLA.out.mono ?_
              rintro e W5 ⟨v5, rfl, hown5, hb5⟩
              have b5 := by4.trans (hb5.mono by4.size)
              obtain ⟨D, hD⟩ : ∃ D, lastF A cap = D := ⟨_, rfl⟩
              rw [hD] at hown5 HS HLE
              obtain ⟨va5, vc5, rfl, _, _, _, _⟩ := vi_view hown5
              have hsub : (A.length : Int) - (D.length : Int) = ((A.length - D.length : Nat) : Int) := by omega
              go_wp2_with fail
              refine bodyPost_ret (v := .tuple #[.slice va5 D.length vc5, .int .i64 0, .int .i64 0, .int .i64 ((A.length - D.length : Nat) : Int)]) (by simp [results, Try.results23, go_sem, hsub]) rfl ?_
              rw [HS.out]
              exact ⟨_, rfl, reads_own hown5, fun g hg => .inr (Nat.le_trans hB.size (hown5.lt g hg).1), hB.trans (b5.mono hB.size)⟩
end Go.Proofs.Ytgelgpcpllmnkaa
