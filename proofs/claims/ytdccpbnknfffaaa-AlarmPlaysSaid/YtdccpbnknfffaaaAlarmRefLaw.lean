/-
  Layer 48, plain law: the document's rows of what is known of each alarm, against functions.
-/
import Derived.Test.YtdccpbnknfffaaaAlarmLaw
namespace Go.Proofs.Ytdccpbnknfffaaa
/-- Alarms: number, every how many ticks, how often. -/
abbrev XL := List (Int × Int × Int)
def xlook (id : Int) (x : XL) : Option (Int × Int × Int) := x.find? fun e => decide (e.1 = id)
def evX (x : XL) (id : Int) : Int := ((xlook id x).getD (0, 0, 0)).2.1
def ctX (x : XL) (id : Int) : Int := ((xlook id x).getD (0, 0, 0)).2.2
def dropX (id : Int) (x : XL) : XL := x.filter fun e => decide (e.1 ≠ id)
theorem putM_same {f : Int → Int} {id v : Int} (h : f id = v) : putM f id v = f := by
  funext i
  unfold putM
  split
  · rename_i e; rw [e, h]
  · rfl
theorem xlook_drop (id i : Int) (x : XL) : xlook i (dropX id x) = if i = id then none else xlook i x := by
  unfold xlook dropX
  induction x with
  | nil => simp
  | cons e x ih =>
    by_cases h : e.1 = id
    · rw [List.filter_cons_of_neg (by simpa using h), ih]
      by_cases hi : i = id
      · rw [if_pos hi, if_pos hi]
      · rw [if_neg hi, if_neg hi, List.find?_cons_of_neg (by simp; intro e2; exact hi (e2.symm.trans h))]
    · rw [List.filter_cons_of_pos (by simpa using h)]
      by_cases he : e.1 = i
      · rw [List.find?_cons_of_pos (by simpa using he), List.find?_cons_of_pos (by simpa using he), if_neg (fun e2 => h (he.trans e2))]
      · rw [List.find?_cons_of_neg (by simpa using he), ih]
        by_cases hi : i = id
        · rw [if_pos hi, if_pos hi]
        · rw [if_neg hi, if_neg hi, List.find?_cons_of_neg (by simpa using he)]
theorem xlook_snoc (i : Int) (x : XL) (e : Int × Int × Int) : xlook i (x ++ [e]) = (xlook i x).or (if e.1 = i then some e else none) := by
  unfold xlook
  rw [List.find?_append]
  congr 1
  by_cases h : e.1 = i
  · rw [if_pos h, List.find?_cons_of_pos (by simpa using h)]
  · rw [if_neg h, List.find?_cons_of_neg (by simpa using h)]; rfl
theorem evX_drop (id : Int) (x : XL) : evX (dropX id x) = putM (evX x) id 0 := by
  funext i
  unfold evX putM
  rw [xlook_drop]
  split <;> rfl
theorem ctX_drop (id : Int) (x : XL) : ctX (dropX id x) = putM (ctX x) id 0 := by
  funext i
  unfold ctX putM
  rw [xlook_drop]
  split <;> rfl
theorem evX_set (id e : Int) (x : XL) : evX (dropX id x ++ [(id, e, 0)]) = putM (evX x) id e := by
  funext i
  unfold evX putM
  rw [xlook_snoc, xlook_drop]
  by_cases h : i = id
  · rw [if_pos h, if_pos h, if_pos h.symm]; rfl
  · rw [if_neg h, if_neg h, if_neg (fun e2 => h e2.symm), Option.or_none]
theorem ctX_set (id e : Int) (x : XL) : ctX (dropX id x ++ [(id, e, 0)]) = putM (ctX x) id 0 := by
  funext i
  unfold ctX putM
  rw [xlook_snoc, xlook_drop]
  by_cases h : i = id
  · rw [if_pos h, if_pos h, if_pos h.symm]; rfl
  · rw [if_neg h, if_neg h, if_neg (fun e2 => h e2.symm), Option.or_none]
/-- The first place of an alarm. -/
def posX (id : Int) : XL → Option Nat
  | [] => none
  | e :: x => if e.1 = id then some 0 else (posX id x).map (· + 1)
theorem posX_none {id : Int} {x : XL} (h : posX id x = none) : xlook id x = none := by
  induction x with
  | nil => rfl
  | cons e x ih =>
    unfold posX at h
    split at h
    · cases h
    · rename_i he
      unfold xlook
      rw [List.find?_cons_of_neg (by simpa using he)]
      exact ih (by simpa using h)
theorem posX_some {id : Int} {x : XL} {k : Nat} (h : posX id x = some k) : k < x.length ∧ (x.getD k (0, 0, 0)).1 = id ∧ xlook id x = some (x.getD k (0, 0, 0)) := by
  induction x generalizing k with
  | nil => cases h
  | cons e x ih =>
    unfold posX at h
    split at h
    · rename_i he
      cases h
      refine ⟨by simp, he, ?_⟩
      unfold xlook
      rw [List.find?_cons_of_pos (by simpa using he)]; rfl
    · rename_i he
      cases hp : posX id x with
      | none => rw [hp] at h; cases h
      | some j =>
        rw [hp] at h
        cases h
        obtain ⟨h1, h2, h3⟩ := ih hp
        refine ⟨by simp; omega, by simpa using h2, ?_⟩
        unfold xlook
        rw [List.find?_cons_of_neg (by simpa using he)]
        have h4 := h3
        unfold xlook at h4
        simpa using h4
def bumpX (k : Nat) (x : XL) : XL := x.set k ((x.getD k (0, 0, 0)).1, (x.getD k (0, 0, 0)).2.1, (x.getD k (0, 0, 0)).2.2 + 1)
theorem bump_length (k : Nat) (x : XL) : (bumpX k x).length = x.length := by simp [bumpX]
theorem xlook_bumpX {id : Int} {x : XL} {k : Nat} (h : posX id x = some k) (i : Int) : xlook i (bumpX k x) = if i = id then some ((x.getD k (0, 0, 0)).1, (x.getD k (0, 0, 0)).2.1, (x.getD k (0, 0, 0)).2.2 + 1) else xlook i x := by
  induction x generalizing k with
  | nil => cases h
  | cons e x ih =>
    unfold posX at h
    split at h
    · rename_i he
      cases h
      show List.find? _ ((e.1, e.2.1, e.2.2 + 1) :: x) = _
      by_cases hi : i = id
      · rw [if_pos hi, List.find?_cons_of_pos (by simp [he, hi])]; rfl
      · have hn : ¬ e.1 = i := fun e2 => hi (e2.symm.trans he)
        rw [if_neg hi, List.find?_cons_of_neg (by simpa using hn)]
        unfold xlook
        rw [List.find?_cons_of_neg (by simpa using hn)]
    · rename_i he
      cases hp : posX id x with
      | none => rw [hp] at h; cases h
      | some j =>
        rw [hp] at h
        cases h
        have hb : bumpX (j + 1) (e :: x) = e :: bumpX j x := by simp [bumpX]
        rw [hb]
        have := ih hp
        unfold xlook at this ⊢
        by_cases hn : e.1 = i
        · rw [List.find?_cons_of_pos (by simpa using hn), List.find?_cons_of_pos (by simpa using hn), if_neg (fun e2 => he (hn.trans e2))]
        · rw [List.find?_cons_of_neg (by simpa using hn), List.find?_cons_of_neg (by simpa using hn), this]
          simp
theorem evX_bump {id : Int} {x : XL} {k : Nat} (h : posX id x = some k) : evX (bumpX k x) = evX x := by
  funext i
  unfold evX
  rw [xlook_bumpX h]
  split
  · rename_i e
    rw [e, (posX_some h).2.2]; rfl
  · rfl
theorem ctX_bump {id : Int} {x : XL} {k : Nat} (h : posX id x = some k) : ctX (bumpX k x) = putM (ctX x) id (ctX x id + 1) := by
  funext i
  unfold ctX putM
  rw [xlook_bumpX h]
  split
  · rw [(posX_some h).2.2]; rfl
  · rfl
/-- The document's step. -/
def stepX (s : TL × XL) (id : Int) : TL × XL :=
  match posX id s.2 with
  | none => s
  | some k => if (s.2.getD k (0, 0, 0)).2.1 = 0 then (s.1, dropX id s.2) else (addR id (s.2.getD k (0, 0, 0)).2.1 s.1, bumpX k s.2)
structure XB (C : Int) (x : XL) : Prop where
  e : ∀ y ∈ x, 0 ≤ y.2.1 ∧ y.2.1 ≤ 65536
  c : ∀ y ∈ x, 0 ≤ y.2.2 ∧ y.2.2 ≤ C
theorem XB.mono {C D : Int} {x : XL} (h : XB C x) (hc : C ≤ D) : XB D x := ⟨h.e, fun y hy => by have := h.c y hy; omega⟩
theorem XB.drop {C : Int} {x : XL} (h : XB C x) (id : Int) : XB C (dropX id x) := ⟨fun y hy => h.e y (List.mem_filter.1 hy).1, fun y hy => h.c y (List.mem_filter.1 hy).1⟩
theorem getD_mem {x : XL} {k : Nat} (hk : k < x.length) : x.getD k (0, 0, 0) ∈ x := by
  rw [List.getD_eq_getElem?_getD, List.getElem?_eq_getElem hk]
  exact List.getElem_mem hk
theorem XB.bumpX {C : Int} {x : XL} (h : XB C x) {k : Nat} (hk : k < x.length) : XB (C + 1) (bumpX k x) := by
  have hm := getD_mem hk
  refine ⟨fun y hy => ?_, fun y hy => ?_⟩
  · rcases List.mem_or_eq_of_mem_set hy with h1 | rfl
    · exact h.e y h1
    · have := h.e _ hm
      exact this
  · rcases List.mem_or_eq_of_mem_set hy with h1 | rfl
    · have := h.c y h1; omega
    · have := h.c _ hm
      show 0 ≤ (x.getD k (0, 0, 0)).2.2 + 1 ∧ (x.getD k (0, 0, 0)).2.2 + 1 ≤ C + 1
      omega
theorem XB.step {C : Int} {s : TL × XL} (h : XB C s.2) (id : Int) : XB (C + 1) (stepX s id).2 := by
  unfold stepX
  split
  · exact h.mono (by omega)
  · rename_i k hk
    split
    · exact (h.drop id).mono (by omega)
    · exact h.bumpX (posX_some hk).1
theorem stepX_len (s : TL × XL) (id : Int) : (stepX s id).2.length ≤ s.2.length := by
  unfold stepX
  split
  · exact Nat.le_refl _
  · split
    · exact List.length_filter_le _ _
    · rw [bump_length]; exact Nat.le_refl _
def toST (s : TL × XL) : ST := (s.1, evX s.2, ctX s.2)
theorem step_is {C : Int} {s : TL × XL} (h : XB C s.2) (hC : C < 65536) (id : Int) : toST (stepX s id) = stepT (toST s) id := by
  obtain ⟨r, x⟩ := s
  unfold stepX
  cases hp : posX id x with
  | none =>
    have hl := posX_none hp
    have e0 : evX x id = 0 := by unfold evX; rw [hl]; rfl
    have c0 : ctX x id = 0 := by unfold ctX; rw [hl]; rfl
    simp only
    unfold toST stepT
    simp only
    rw [if_pos e0, putM_same e0, putM_same c0]
  | some k =>
    obtain ⟨h1, h2, h3⟩ := posX_some hp
    have e0 : evX x id = (x.getD k (0, 0, 0)).2.1 := by unfold evX; rw [h3]; rfl
    have c0 : ctX x id = (x.getD k (0, 0, 0)).2.2 := by unfold ctX; rw [h3]; rfl
    have hc : 0 ≤ (x.getD k (0, 0, 0)).2.2 ∧ (x.getD k (0, 0, 0)).2.2 ≤ C := h.c _ (getD_mem h1)
    simp only
    unfold toST stepT
    simp only
    rw [← e0]
    split
    · simp only
      rw [evX_drop, ctX_drop]
    · simp only
      rw [evX_bump hp, ctX_bump hp, Int.min_eq_left (by rw [c0]; omega)]
def foldX (s : TL × XL) (l : List Int) : TL × XL := l.foldl stepX s
def tickX (s : TL × XL) : TL × XL := foldX (leftR s.1, s.2) (dueR s.1)
theorem foldX_snoc (s : TL × XL) (l : List Int) (x : Int) : foldX s (l ++ [x]) = stepX (foldX s l) x := by unfold foldX; rw [List.foldl_append]; rfl
theorem foldX_is {C : Int} {s : TL × XL} {l : List Int} (h : XB C s.2) (hC : C + l.length ≤ 65536) : toST (foldX s l) = l.foldl stepT (toST s) ∧ XB (C + l.length) (foldX s l).2 ∧ (foldX s l).2.length ≤ s.2.length := by
  induction l generalizing s C with
  | nil => exact ⟨rfl, by simpa [foldX] using h, Nat.le_refl _⟩
  | cons a l ih =>
    simp only [List.length_cons] at hC
    obtain ⟨h1, h2, h3⟩ := ih (h.step a) (by push_cast at hC ⊢; omega)
    refine ⟨?_, ?_, Nat.le_trans h3 (stepX_len s a)⟩
    · show toST (foldX (stepX s a) l) = l.foldl stepT (stepT (toST s) a)
      rw [h1, step_is h (by push_cast at hC; omega)]
    · refine XB.mono h2 ?_
      simp only [List.length_cons]
      push_cast
      omega
theorem tickX_is {C : Int} {s : TL × XL} (h : XB C s.2) (hC : C + (dueR s.1).length ≤ 65536) : toST (tickX s) = tickA (toST s) ∧ XB (C + (dueR s.1).length) (tickX s).2 ∧ (tickX s).2.length ≤ s.2.length :=
  foldX_is (s := (leftR s.1, s.2)) h hC
end Go.Proofs.Ytdccpbnknfffaaa
