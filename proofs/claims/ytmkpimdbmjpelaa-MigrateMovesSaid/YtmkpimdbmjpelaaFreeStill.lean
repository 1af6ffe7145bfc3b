/-
  A region that draws its order: among the effects that are left, one that only reads (and that the others do not look at) may be taken first.
-/
import Derived.Test.YtmkpimdbmjpelaaFree
namespace Go.Proofs.Ytmkpimdbmjpelaa
open Go.RowKit
section
variable {P : Program} {ops : Array Oper}
theorem put_get_other {a : Act} {d : Option Tmp} {v : Value} {t : Tmp} (h : d ≠ some t) : (a.put d v).tmps[t]? = a.tmps[t]? := by
  cases d with
  | none => rfl
  | some d =>
    have : d ≠ t := fun e => h (by rw [e])
    show (a.tmps.setIfInBounds d v)[t]? = a.tmps[t]?
    rw [Array.getElem?_setIfInBounds_ne this]
theorem put_swap {a : Act} {d1 d2 : Option Tmp} {u v : Value} (h : ∀ d, d1 = some d → d2 ≠ some d) : (a.put d1 u).put d2 v = (a.put d2 v).put d1 u := by
  cases d1 with
  | none => rfl
  | some x =>
    cases d2 with
    | none => rfl
    | some y =>
      have hne : x ≠ y := fun e => h x rfl (by rw [e])
      show ({ a with tmps := (a.tmps.setIfInBounds x u).setIfInBounds y v } : Act) = { a with tmps := (a.tmps.setIfInBounds y v).setIfInBounds x u }
      congr 1
      rw [Array.setIfInBounds_comm _ _ hne]
theorem put_dfs {a : Act} {d : Option Tmp} {v : Value} {ds : List Deferred} : ({ a with defers := ds } : Act).put d v = { a.put d v with defers := ds } := by
  cases d <;> rfl
theorem put_dfs_get {a : Act} {d : Option Tmp} {v : Value} : (a.put d v).defers = a.defers := by
  cases d <;> rfl
theorem wpList_only_agree {o : Oper} {a b : Act} {w : World} {K K2 : Act → World → Prop} (hs : ∀ cs b, o.op ≠ .select cs b) (hag : ∀ t, t ∈ o.looksAt ops → a.tmps[t]? = b.tmps[t]?) (hdf : b.defers = a.defers)
    (hK : ∀ (v : Value) (w' : World) (ds : List Deferred), K (({ b with defers := ds } : Act).put o.dst v) w' → K2 (({ a with defers := ds } : Act).put o.dst v) w') (h : wpList P ops (only K) [o] b w) : wpList P ops (only K2) [o] a w := by
  have hK0 : ∀ (v : Value) (w' : World), K (b.put o.dst v) w' → K2 (a.put o.dst v) w' := fun v w' hk => hK v w' a.defers (by
    have e : ({ b with defers := a.defers } : Act) = b := by rw [← hdf]
    rw [e]; exact hk)
  have hwant := wanted_of_agree (ops := ops) hag
  have hexec := exec_of_agree (ops := ops) hs hag
  unfold wpList at h ⊢
  rw [hwant]
  by_cases hw : Region.wanted o (yielded ops b.tmps) = true
  · rw [if_pos hw] at h ⊢
    left
    rcases h with h | ⟨_, h⟩
    rotate_left
    · exact (only_lets h).elim
    unfold Oper.wp at h ⊢
    rw [hexec]
    generalize (execOp b.eval o).run P w = res at h ⊢
    cases res with
    | ok n w' =>
      cases n with
      | value v => exact ⟨rfl, hK0 _ _ h.2⟩
      | skip => exact ⟨rfl, hK0 _ _ h.2⟩
      | defer d =>
        have e := h.2
        simp only [Oper.upon]
        refine ⟨rfl, hK _ _ _ ?_⟩
        rw [← hdf]; exact e
      | enter f args =>
        refine Calls.mono h ?_
        intro e w'' he
        cases e with
        | returned v => exact ⟨rfl, hK0 _ _ he.2⟩
        | panicked ch => exact absurd he.1 (by simp)
        | outgrown => exact (only_lets he).elim
      | row row args =>
        refine Rows.mono h ?_
        intro v w'' he
        exact ⟨rfl, hK0 _ _ he.2⟩
      | _ => exact h.elim
    | halt x w' =>
      cases x with
      | panic v => exact absurd h.1 (by simp)
      | _ => exact h.elim
  · rw [if_neg hw] at h ⊢
    exact ⟨rfl, hK0 _ _ h.2⟩
/-- What one that only reads gives, in whatever world of the class. -/
def StillOf (P : Program) (ops : Array Oper) (C : World → Prop) (o : Oper) (a : Act) (v : Value) : Prop :=
  (Region.wanted o (yielded ops a.tmps) = true ∧ stillAt P C o a v) ∨ (Region.wanted o (yielded ops a.tmps) = false ∧ v = undef)
/-- None of those that are left looks at it, but for those that wait for it; none of them is the last one. -/
def stillB (ops : Array Oper) (rem : List Nat) (i : Nat) : Bool := rem.all fun r => r == i || (!allB ops r && (match ops[i]?, ops[r]? with
  | some x, some y => waitsB i y || x.apart ops y
  | _, _ => false)) && (match ops[r]? with | some y => (match y.op with | .select _ _ => false | _ => true) | none => false)
theorem stillB_erase {rem : List Nat} {i r : Nat} (h : stillB ops rem i = true) : stillB ops (rem.erase r) i = true := by
  unfold stillB at h ⊢
  rw [List.all_eq_true] at h ⊢
  exact fun x hx => h x (List.mem_of_mem_erase hx)
theorem wpTs_still_aux {C : World → Prop} {Q : Act → World → Prop} {i : Nat} {oi : Oper} (hoi : ops[i]? = some oi) (hsi : ∀ cs b, oi.op ≠ .select cs b) (v : Value) :
    ∀ (m : Nat) (rem : List Nat) (a : Act) (w : World), rem.length = m + 1 → i ∈ rem → stillB ops rem i = true → C w → StillOf P ops C oi a v → wpTs P ops C Q m (rem.erase i) (a.put oi.dst v) w → wpTs P ops C Q (m + 1) rem a w := by
  intro m
  induction m with
  | zero =>
    intro rem a w hl hi hst hC hv H r hr hrdy
    have hri : r = i := by
      cases rem with
      | nil => cases hi
      | cons x xs =>
        have : xs = [] := List.eq_nil_of_length_eq_zero (by simpa using hl)
        subst this
        rw [List.mem_singleton] at hr hi
        rw [hr, hi]
    subst hri
    refine ⟨oi, hoi, ?_⟩
    unfold wpList
    rcases hv with ⟨h1, h2⟩ | ⟨h1, rfl⟩
    · rw [if_pos h1]
      left
      unfold Oper.wp
      rw [h2 w hC]
      exact ⟨rfl, .inr hC, H⟩
    · rw [if_neg (by rw [h1]; simp)]
      exact ⟨rfl, .inr hC, H⟩
  | succ m ih =>
    intro rem a w hl hi hst hC hv H r hr hrdy
    by_cases hri : r = i
    · subst hri
      refine ⟨oi, hoi, ?_⟩
      unfold wpList
      rcases hv with ⟨h1, h2⟩ | ⟨h1, rfl⟩
      · rw [if_pos h1]
        left
        unfold Oper.wp
        rw [h2 w hC]
        exact ⟨rfl, .inr hC, H⟩
      · rw [if_neg (by rw [h1]; simp)]
        exact ⟨rfl, .inr hC, H⟩
    · have hre : r ∈ rem.erase i := (List.mem_erase_of_ne hri).2 hr
      have hrdy2 : rdyB ops (rem.erase i) r = true := by
        unfold rdyB at hrdy ⊢
        rw [List.all_eq_true] at hrdy ⊢
        exact fun x hx => hrdy x (List.mem_of_mem_erase hx)
      obtain ⟨o, ho, hw⟩ := H r hre hrdy2
      have hs := List.all_eq_true.1 hst r hr
      have hnw : waitsB i o = false := by
        have := List.all_eq_true.1 hrdy i hi
        rw [ho] at this
        simpa using this
      simp only [hoi, ho, hnw, Bool.false_or, Bool.and_eq_true, Bool.or_eq_true, Bool.not_eq_true', beq_iff_eq, hri, false_or] at hs
      obtain ⟨⟨hall, hap⟩, hsel⟩ := hs
      have hselr : ∀ cs b, o.op ≠ .select cs b := fun cs b e => by rw [e] at hsel; cases hsel
      obtain ⟨p1, p2, p3⟩ := Oper.apart_spec hap
      refine ⟨o, ho, ?_⟩
      refine wpList_only_agree hselr (b := a.put oi.dst v) (fun t ht => (put_get_other fun e => p1 t e ht).symm) put_dfs_get (fun u w' ds hk => ?_) hw
      obtain ⟨hc, hk⟩ := hk
      have hC' : C w' := hc.resolve_left (by rw [hall]; simp)
      refine ⟨.inr hC', ?_⟩
      refine ih (rem.erase r) _ w' (by rw [List.length_erase_of_mem hr, hl]; rfl) ((List.mem_erase_of_ne (Ne.symm hri)).2 hi) (stillB_erase hst) hC' ?_ ?_
      · have hag : ∀ t, t ∈ oi.looksAt ops → (({ a with defers := ds } : Act).put o.dst u).tmps[t]? = a.tmps[t]? := fun t ht => by
          rw [put_get_other fun e => p3 t e ht]
        have hwant := wanted_of_agree (ops := ops) hag
        have hexec := exec_of_agree (ops := ops) hsi hag
        rcases hv with ⟨h1, h2⟩ | ⟨h1, h2⟩
        · refine .inl ⟨by rw [hwant]; exact h1, fun X hX => ?_⟩
          rw [hexec]; exact h2 X hX
        · exact .inr ⟨by rw [hwant]; exact h1, h2⟩
      · rw [List.erase_comm]
        have e : (({ a.put oi.dst v with defers := ds } : Act).put o.dst u) = ((({ a with defers := ds } : Act).put o.dst u).put oi.dst v) := by
          rw [← put_dfs]
          exact (put_swap fun d hd => p2 d hd)
        rw [← e]
        exact hk
/-- One that only reads goes first. -/
theorem wpTs_still {C : World → Prop} {Q : Act → World → Prop} {m : Nat} {rem rem1 : List Nat} {i : Nat} {o : Oper} {a : Act} {w : World} (hl : rem.length = m + 1) (hB : (rem.contains i && stillB ops rem i && (match ops[i]? with | some y => (match y.op with | .select _ _ => false | _ => true) | none => false)) = true)
    (he : rem.erase i = rem1) (ho : ops[i]? = some o) (hC : C w) (hw : Region.wanted o (yielded ops a.tmps) = true)
    (h : ∀ K : Act → Prop, (∀ a', wpTs P ops C Q m rem1 a' w → K a') → ∃ v, stillAt P C o a v ∧ K (a.put o.dst v)) : wpTs P ops C Q (m + 1) rem a w := by
  simp only [Bool.and_eq_true, List.contains_iff_mem] at hB
  obtain ⟨⟨h1, h2⟩, h3⟩ := hB
  obtain ⟨v, hv, hk⟩ := h _ fun _ h => h
  subst he
  exact wpTs_still_aux ho (fun cs b e => by rw [ho] at h3; simp only [e] at h3; cases h3) v m rem a w hl h1 h2 hC (.inl ⟨hw, hv⟩) hk
/-- One whose guard is shut goes first. -/
theorem wpTs_skip {C : World → Prop} {Q : Act → World → Prop} {m : Nat} {rem rem1 : List Nat} {i : Nat} {o : Oper} {a : Act} {w : World} (hl : rem.length = m + 1) (hB : (rem.contains i && stillB ops rem i && (match ops[i]? with | some y => (match y.op with | .select _ _ => false | _ => true) | none => false)) = true)
    (he : rem.erase i = rem1) (ho : ops[i]? = some o) (hC : C w) (hw : Region.wanted o (yielded ops a.tmps) = false)
    (h : wpTs P ops C Q m rem1 (a.put o.dst undef) w) : wpTs P ops C Q (m + 1) rem a w := by
  simp only [Bool.and_eq_true, List.contains_iff_mem] at hB
  obtain ⟨⟨h1, h2⟩, h3⟩ := hB
  subst he
  exact wpTs_still_aux ho (fun cs b e => by rw [ho] at h3; simp only [e] at h3; cases h3) undef m rem a w hl h1 h2 hC (.inr ⟨hw, rfl⟩) h
end
end Go.Proofs.Ytmkpimdbmjpelaa
