/-
  The groups of words: what they are, and the iterator over them, which keeps what is left in a captured variable.
-/
import Derived.Test.YtgelgpcpllmnkaaRle
import Derived.Test.YtgelgpcpllmnkaaStageIn
namespace Go.Proofs.Ytgelgpcpllmnkaa
open Go.RowKit Go.Shelf
attribute [local go_sem] Oper.semAt_some
theorem lead_spec {p : Nat → Bool} : ∀ k n, n ≤ lead p k n ∧ lead p k n ≤ n + k ∧ (∀ j, n ≤ j → j < lead p k n → p j = true) ∧ (lead p k n < n + k → p (lead p k n) = false) := by
  intro k
  induction k with
  | zero => intro n; exact ⟨Nat.le_refl _, Nat.le_refl _, fun j h1 h2 => absurd h2 (by show ¬ j < n; omega), fun h => absurd h (by show ¬ n < n + 0; omega)⟩
  | succ k ih =>
    intro n
    unfold lead
    cases hp : p n
    · simp only [Bool.false_eq_true, if_false]
      exact ⟨Nat.le_refl _, by omega, fun j h1 h2 => by omega, fun _ => hp⟩
    · simp only [if_true]
      obtain ⟨h1, h2, h3, h4⟩ := ih (n + 1)
      refine ⟨by omega, by omega, fun j hj1 hj2 => ?_, fun h => h4 (by omega)⟩
      rcases Nat.lt_or_ge n j with h5 | h5
      · exact h3 j h5 hj2
      · obtain rfl : j = n := by omega
        exact hp
theorem runF_spec (f : Nat → Int) (n : Nat) : (∀ j, j < runF f n → runP f n j = true) ∧ runP f n (runF f n) = false := by
  obtain ⟨_, h2, h3, h4⟩ := lead_spec (p := runP f n) 4097 0
  refine ⟨fun j hj => h3 j (Nat.zero_le _) hj, ?_⟩
  rcases Nat.lt_or_ge (runF f n) 4097 with h | h
  · exact h4 (by show runF f n < 0 + 4097; omega)
  · have := h3 4096 (Nat.zero_le _) (by show 4096 < runF f n; omega)
    simp [runP] at this
theorem plainF_spec (f : Nat → Int) (n : Nat) : (∀ j, j < plainF f n → plainP f n j = true) ∧ plainP f n (plainF f n) = false := by
  obtain ⟨_, h2, h3, h4⟩ := lead_spec (p := plainP f n) 4097 0
  refine ⟨fun j hj => h3 j (Nat.zero_le _) hj, ?_⟩
  rcases Nat.lt_or_ge (plainF f n) 4097 with h | h
  · exact h4 (by show plainF f n < 0 + 4097; omega)
  · have := h3 4096 (Nat.zero_le _) (by show 4096 < plainF f n; omega)
    simp [plainP] at this
theorem runF_le (f : Nat → Int) (n : Nat) : runF f n ≤ n ∧ runF f n ≤ 4096 := by
  have h := (runF_spec f n).1
  rcases Nat.eq_zero_or_pos (runF f n) with h0 | h0
  · omega
  · have := h (runF f n - 1) (by omega)
    simp [runP] at this
    omega
theorem plainF_le (f : Nat → Int) (n : Nat) : plainF f n ≤ n ∧ plainF f n ≤ 4096 := by
  have h := (plainF_spec f n).1
  rcases Nat.eq_zero_or_pos (plainF f n) with h0 | h0
  · omega
  · have := h (plainF f n - 1) (by omega)
    simp [plainP] at this
    omega
/-- A group: does one word come again and again; where it begins; how many. -/
abbrev Grp := Bool × Nat × Nat
def headN (f : Nat → Int) (n k : Nat) : Nat := runF (fun j => f (k + j)) (n - k)
def restN (f : Nat → Int) (n k : Nat) : Nat := plainF (fun j => f (k + j)) (n - k)
def grpAt (f : Nat → Int) (n k : Nat) : Grp := if headN f n k < 3 then (false, k, restN f n k) else (true, k, headN f n k)
theorem restN_pos {f : Nat → Int} {n k : Nat} (hk : k < n) (h : headN f n k < 3) : 0 < restN f n k := by
  rcases Nat.eq_zero_or_pos (restN f n k) with h0 | h0
  · have := (plainF_spec (fun j => f (k + j)) (n - k)).2
    rw [show plainF (fun j => f (k + j)) (n - k) = 0 from h0] at this
    simp only [plainP, Nat.zero_add, Nat.sub_zero] at this
    rw [show (runF (fun i => f (k + i)) (n - k)) = headN f n k from rfl] at this
    simp [h] at this
    omega
  · exact h0
theorem grpAt_pos {f : Nat → Int} {n k : Nat} (hk : k < n) : 0 < (grpAt f n k).2.2 ∧ k + (grpAt f n k).2.2 ≤ n ∧ (grpAt f n k).2.2 ≤ 4096 ∧ (grpAt f n k).2.1 = k := by
  unfold grpAt
  split
  · rename_i h
    have := plainF_le (fun j => f (k + j)) (n - k)
    exact ⟨restN_pos hk h, by show k + restN f n k ≤ n; unfold restN; omega, this.2, rfl⟩
  · rename_i h
    have := runF_le (fun j => f (k + j)) (n - k)
    exact ⟨by show 0 < headN f n k; omega, by show k + headN f n k ≤ n; unfold headN; omega, this.2, rfl⟩
def groupsF (f : Nat → Int) (n : Nat) : Nat → Nat → List Grp
  | 0, _ => []
  | m + 1, k => if k < n then grpAt f n k :: groupsF f n m (k + (grpAt f n k).2.2) else []
theorem groupsF_fuel (f : Nat → Int) (n : Nat) : ∀ m m' k, n ≤ k + m → n ≤ k + m' → groupsF f n m k = groupsF f n m' k := by
  intro m
  induction m with
  | zero =>
    intro m' k h1 h2
    cases m' with
    | zero => rfl
    | succ m' => show [] = if k < n then _ else _; rw [if_neg (by omega)]
  | succ m ih =>
    intro m' k h1 h2
    by_cases hk : k < n
    · cases m' with
      | zero => omega
      | succ m' =>
        have hp := grpAt_pos (f := f) hk
        show (if k < n then _ else _) = if k < n then _ else _
        rw [if_pos hk, if_pos hk, ih m' _ (by omega) (by omega)]
    · cases m' with
      | zero => show (if k < n then _ else _) = []; rw [if_neg hk]
      | succ m' => show (if k < n then _ else _) = if k < n then _ else _; rw [if_neg hk, if_neg hk]
/-- The groups from a place on. -/
def groupsN (f : Nat → Int) (n k : Nat) : List Grp := groupsF f n (n - k) k
theorem groupsN_on {f : Nat → Int} {n k : Nat} (hk : k < n) : groupsN f n k = grpAt f n k :: groupsN f n (k + (grpAt f n k).2.2) := by
  have hp := grpAt_pos (f := f) hk
  unfold groupsN
  rw [show n - k = (n - k - 1) + 1 by omega]
  show (if k < n then _ else _) = _
  rw [if_pos hk, groupsF_fuel f n (n - k - 1) (n - (k + (grpAt f n k).2.2)) _ (by omega) (by omega)]
theorem groupsN_end {f : Nat → Int} {n k : Nat} (hk : n ≤ k) : groupsN f n k = [] := by
  unfold groupsN; rw [show n - k = 0 by omega]; rfl
/-- How many words groups tell. -/
def pos (l : List Grp) : Nat := (l.map (·.2.2)).sum
theorem pos_snoc (l : List Grp) (x : Grp) : pos (l ++ [x]) = pos l + x.2.2 := by simp [pos]
/-- The words of a group. -/
def gwords (f : Nat → Int) (x : Grp) : List Int := if x.1 then [2147483648 + (x.2.2 : Int), f x.2.1] else (x.2.2 : Int) :: (List.range x.2.2).map fun j => f (x.2.1 + j)
def words (f : Nat → Int) (l : List Grp) : List Int := l.flatMap (gwords f)
theorem words_snoc (f : Nat → Int) (l : List Grp) (x : Grp) : words f (l ++ [x]) = words f l ++ gwords f x := by simp [words]
def packF (f : Nat → Int) (n : Nat) : List Int := words f (groupsN f n 0)
def u32L (xs : List Int) : List Value := xs.map (Value.int .u32 ·)
theorem u32L_append (xs ys : List Int) : u32L (xs ++ ys) = u32L xs ++ u32L ys := by simp [u32L]
def addrAt (ao : Option Addr) (k : Nat) : Option Addr := ao.map fun a => ⟨a.block, a.off + k, none⟩
/-! what the caller and the iterator keep -/
/-- The result's box, and what it holds. -/
def OutI (w : World) (f : Nat → Int) (pre : List Grp) (W : World) : Prop :=
  (∃ v, Boxed W w.heap.size 71 v ∧ W.ownsRow w.heap.size 72 1 v (words f pre).length (u32L (words f pre))) ∧ Below w.heap.size w W
/-- The box of what is left. -/
def LeftI (w : World) (n c : Nat) (ao : Option Addr) (k : Nat) (W : World) : Prop := ∃ ao', Boxed W (w.heap.size + 1) 71 (.slice ao' (n - k) (c - k)) ∧ (k < n → ao' = addrAt ao k)
def SeqI (w : World) (f : Nat → Int) (n c : Nat) (ao : Option Addr) (pre : List Grp) (W : World) : Prop :=
  pos pre ≤ n ∧ pre ++ groupsN f n (pos pre) = groupsN f n 0 ∧ (words f pre).length ≤ 2 * pos pre ∧ LeftI w n c ao (pos pre) W ∧ OutI w f pre W
def Fits (f : Nat → Int) (n : Nat) (pre : List Grp) (x : Grp) : Prop := pos pre < n ∧ x = grpAt f n (pos pre)
def SeqI2 (w : World) (f : Nat → Int) (n c : Nat) (ao : Option Addr) (p : List Grp × Grp) (W : World) : Prop :=
  Fits f n p.1 p.2 ∧ p.1 ++ groupsN f n (pos p.1) = groupsN f n 0 ∧ (words f (p.1 ++ [p.2])).length ≤ 2 * pos (p.1 ++ [p.2]) ∧ LeftI w n c ao (pos p.1) W ∧ OutI w f (p.1 ++ [p.2]) W
/-- Cells that lie as they lay, and what is new. -/
theorem boxed_below {W W' : World} {B : Nat} {t : TypeId} {v : Value} (h : Boxed W B t v) (hb : Below W.heap.size W W') : Boxed W' B t v := (hb.block B h.lt).trans h
theorem grown_below {w w' : World} (h : Below w.heap.size w w') : w.grownBy w' none := ⟨h.os, h.tape, h.output, h.size, fun k hk _ => h.block k hk⟩
theorem row_any (v : Value) : v.ownBlock = none ∨ v.ownBlock ≠ none := by cases v.ownBlock <;> simp
theorem OutI.below {w W W' : World} {f : Nat → Int} {pre : List Grp} (h : OutI w f pre W) (hb : Below W.heap.size W W') : OutI w f pre W' := by
  obtain ⟨⟨v, hv, hr⟩, hB⟩ := h
  exact ⟨⟨v, boxed_below hv hb, hr.kept (grown_below hb) (row_any _)⟩, hB.trans (hb.mono hB.size)⟩
theorem LeftI.below {w W W' : World} {n c k : Nat} {ao : Option Addr} (h : LeftI w n c ao k W) (hb : Below W.heap.size W W') : LeftI w n c ao k W' := by
  obtain ⟨ao', hv, he⟩ := h
  exact ⟨ao', boxed_below hv hb, he⟩
theorem SeqI.below {w W W' : World} {f : Nat → Int} {n c : Nat} {ao : Option Addr} {pre : List Grp} (h : SeqI w f n c ao pre W) (hb : Below W.heap.size W W') : SeqI w f n c ao pre W' :=
  ⟨h.1, h.2.1, h.2.2.1, h.2.2.2.1.below hb, h.2.2.2.2.below hb⟩
theorem outI_own (w : World) (f : Nat → Int) (d : Nat) (hd : w.heap.size ≤ d) : OwnFrom d (fun (pre : List Grp) W => OutI w f pre W) := by
  intro s X Y row h hg hr
  obtain ⟨⟨v, hv, hro⟩, hB⟩ := h
  refine ⟨⟨v, hv.kept hg fun e => ?_, hro.kept hg ?_⟩, hB.grown hg hB.size fun k e => Nat.le_trans hd (hr k e).1⟩
  · obtain ⟨o, ho, hc⟩ := (hr _ e.symm).2
    rw [show X.heap[w.heap.size]? = _ from hv] at ho; cases ho; cases hc
  · rcases hro.2 with ⟨rfl, _⟩ | ⟨g, cap, cur, rfl, _, hgb, _⟩
    · exact .inl rfl
    · refine .inr fun e => ?_
      obtain ⟨o, ho, hc⟩ := (hr g (by simpa [Value.ownBlock] using e.symm)).2
      rw [hgb] at ho; cases ho; cases hc
theorem leftI_own (w : World) (n c : Nat) (ao : Option Addr) (d : Nat) : OwnFrom d (fun (k : Nat) W => LeftI w n c ao k W) := by
  intro s X Y row h hg hr
  obtain ⟨ao', hv, he⟩ := h
  refine ⟨ao', hv.kept hg fun e => ?_, he⟩
  obtain ⟨o, ho, hc⟩ := (hr _ e.symm).2
  rw [show X.heap[w.heap.size + 1]? = _ from hv] at ho; cases ho; cases hc
theorem seqI_own (w : World) (f : Nat → Int) (n c : Nat) (ao : Option Addr) (d : Nat) (hd : w.heap.size ≤ d) : OwnFrom d (SeqI w f n c ao) := fun _ X Y row h hg hr =>
  ⟨h.1, h.2.1, h.2.2.1, leftI_own w n c ao d _ X Y row h.2.2.2.1 hg hr, outI_own w f d hd _ X Y row h.2.2.2.2 hg hr⟩
theorem seqI2_own (w : World) (f : Nat → Int) (n c : Nat) (ao : Option Addr) (d : Nat) (hd : w.heap.size ≤ d) : OwnFrom d (SeqI2 w f n c ao) := fun _ X Y row h hg hr =>
  ⟨h.1, h.2.1, h.2.2.1, leftI_own w n c ao d _ X Y row h.2.2.2.1 hg hr, outI_own w f d hd _ X Y row h.2.2.2.2 hg hr⟩
/-- Behind a round the iterator notes what is left. -/
theorem seq_turn {w W : World} {f : Nat → Int} {n c : Nat} {ao ao' : Option Addr} {pre : List Grp} {x : Grp} (h : SeqI2 w f n c ao (pre, x) W) (hao : pos pre + x.2.2 < n → ao' = addrAt ao (pos pre + x.2.2)) :
    SeqI w f n c ao (pre ++ [x]) (W.setCell ⟨w.heap.size + 1, 0, none⟩ (.slice ao' (n - (pos pre + x.2.2)) (c - (pos pre + x.2.2)))) := by
  obtain ⟨⟨hf1, hf2⟩, hg, hw, ⟨a0, hv, he⟩, ⟨v, hv1, hr⟩, hB⟩ := h
  simp only at hf1 hf2
  have hp := grpAt_pos (f := f) hf1
  rw [← hf2] at hp
  refine ⟨by rw [pos_snoc]; omega, ?_, hw, ?_, ⟨v, hv1.other (by omega) _, hr.kept (grownBy_setCell' W _ _) (.inr (hv.not_row (by decide) hr).symm)⟩, hB.setCell (p := ⟨w.heap.size + 1, 0, none⟩) (by simp) _⟩
  · rw [← hg, groupsN_on (k := pos pre) hf1, ← hf2, pos_snoc]; simp
  · rw [pos_snoc]
    exact ⟨ao', hv.set _, hao⟩
end Go.Proofs.Ytgelgpcpllmnkaa
