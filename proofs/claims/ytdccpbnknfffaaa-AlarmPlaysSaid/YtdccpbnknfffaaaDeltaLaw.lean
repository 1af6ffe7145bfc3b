/-
  Plain law of the layer 23: a row of timers, each of which tells how many ticks it is due behind the one ahead, against timers as they were added.
-/
import Derived.Test.YtdccpbnknfffaaaKit
namespace Go.Proofs.Ytdccpbnknfffaaa
/-- Timers: number and ticks. -/
abbrev TL := List (Int × Int)
/-- When each is due. -/
def absL : Int → TL → TL
  | _, [] => []
  | acc, (i, b) :: l => (i, acc + b) :: absL (acc + b) l
/-- A timer more, behind those that are due in as many ticks. -/
def insA (x : Int × Int) : TL → TL
  | [] => [x]
  | y :: l => if y.2 ≤ x.2 then y :: insA x l else x :: y :: l
def srt (r : TL) : TL := r.foldl (fun l x => insA x l) []
theorem srt_snoc (r : TL) (x : Int × Int) : srt (r ++ [x]) = insA x (srt r) := by simp [srt]
theorem insA_length (x : Int × Int) (l : TL) : (insA x l).length = l.length + 1 := by
  induction l with
  | nil => rfl
  | cons y l ih => simp only [insA]; split <;> simp [ih]
theorem snoc_ind {α : Type} {P : List α → Prop} (h0 : P []) (h1 : ∀ l x, P l → P (l ++ [x])) : ∀ n (l : List α), l.length = n → P l := by
  intro n
  induction n with
  | zero => intro l hl; rw [List.eq_nil_of_length_eq_zero hl]; exact h0
  | succ n ih =>
    intro l hl
    rcases List.eq_nil_or_concat l with h | ⟨l', x, h⟩
    · rw [h]; exact h0
    · rw [h, List.concat_eq_append]
      refine h1 _ _ (ih l' ?_)
      rw [h] at hl; simpa using hl
theorem srt_length (r : TL) : (srt r).length = r.length := by
  refine snoc_ind (P := fun r => (srt r).length = r.length) rfl (fun l x ih => ?_) _ r rfl
  rw [srt_snoc, insA_length, ih]; simp
theorem insA_mem {x y : Int × Int} {l : TL} : y ∈ insA x l ↔ y = x ∨ y ∈ l := by
  induction l with
  | nil => simp [insA]
  | cons z l ih =>
    simp only [insA]
    split
    · rw [List.mem_cons, ih, List.mem_cons]
      constructor <;> (intro h; rcases h with h | h | h <;> simp [h])
    · simp
theorem srt_mem {r : TL} {y : Int × Int} : y ∈ srt r ↔ y ∈ r := by
  refine snoc_ind (P := fun r => y ∈ srt r ↔ y ∈ r) (by rfl) (fun l x ih => ?_) _ r rfl
  rw [srt_snoc, insA_mem, ih]; simp [or_comm]
theorem absL_mem_ge {acc : Int} {l : TL} (h : ∀ x ∈ l, 0 ≤ x.2) : ∀ y ∈ absL acc l, acc ≤ y.2 := by
  induction l generalizing acc with
  | nil => intro y hy; cases hy
  | cons x l ih =>
    obtain ⟨i, b⟩ := x
    intro y hy
    have hb : (0 : Int) ≤ b := h (i, b) (by simp)
    simp only [absL, List.mem_cons] at hy
    rcases hy with rfl | hy
    · show acc ≤ acc + b; omega
    · have := ih (acc := acc + b) (fun x hx => h x (by simp [hx])) y hy
      omega
theorem absL_length (acc : Int) (l : TL) : (absL acc l).length = l.length := by
  induction l generalizing acc with
  | nil => rfl
  | cons x l ih => obtain ⟨i, b⟩ := x; simp [absL, ih]
/-! ### a timer more -/
def insF (id : Int) : Int → TL → TL
  | t, [] => [(id, t)]
  | t, (i, b) :: l => if b ≤ t then (i, b) :: insF id (t - b) l else (id, t) :: (i, b - t) :: l
theorem absL_shift (acc t : Int) (i b : Int) (l : TL) : absL (acc + t) ((i, b - t) :: l) = absL acc ((i, b) :: l) := by
  simp only [absL]
  rw [show acc + t + (b - t) = acc + b by omega]
theorem absL_ins (id : Int) : ∀ (l : TL) (acc t : Int), absL acc (insF id t l) = insA (id, acc + t) (absL acc l)
  | [], acc, t => rfl
  | (i, b) :: l, acc, t => by
    simp only [insF]
    by_cases h : b ≤ t
    · rw [if_pos h]
      simp only [absL, insA]
      rw [if_pos (show acc + b ≤ acc + t by omega), absL_ins id l, show acc + b + (t - b) = acc + t by omega]
    · rw [if_neg h]
      simp only [absL, insA]
      rw [if_neg (show ¬ (acc + b ≤ acc + t) by omega), show acc + t + (b - t) = acc + b by omega]
theorem insF_length (id t : Int) (l : TL) : (insF id t l).length = l.length + 1 := by
  have := congrArg List.length (absL_ins id l 0 t)
  rwa [absL_length, insA_length, absL_length] at this
/-! ### a timer less -/
def cancelF (id : Int) : TL → TL × Bool
  | [] => ([], false)
  | (i, b) :: l => if i = id then ((match l with | [] => [] | (j, c) :: m => (j, c + b) :: m), true) else ((i, b) :: (cancelF id l).1, (cancelF id l).2)
theorem absL_cancel (id : Int) : ∀ (l : TL) (acc : Int), absL acc (cancelF id l).1 = (absL acc l).eraseP (fun x => x.1 = id) ∧ ((cancelF id l).2 = true ↔ ∃ x ∈ absL acc l, x.1 = id)
  | [], acc => ⟨rfl, by simp [cancelF, absL]⟩
  | (i, b) :: l, acc => by
    by_cases h : i = id
    · refine ⟨?_, ?_⟩
      · simp only [cancelF, if_pos h, absL]
        rw [List.eraseP_cons_of_pos (by simpa using h)]
        cases l with
        | nil => rfl
        | cons y m =>
          obtain ⟨j, c⟩ := y
          simp only [absL]
          rw [show acc + (c + b) = acc + b + c by omega]
      · simp only [cancelF, if_pos h, absL, true_iff]
        exact ⟨_, List.mem_cons_self, h⟩
    · obtain ⟨h1, h2⟩ := absL_cancel id l (acc + b)
      refine ⟨?_, ?_⟩
      · simp only [cancelF, if_neg h, absL]
        rw [List.eraseP_cons_of_neg (by simpa using h), h1]
      · simp only [cancelF, if_neg h, absL, h2]
        simp [h]
/-! ### when a timer is due -/
def dueF (id : Int) : Int → TL → Option Int
  | _, [] => none
  | acc, (i, b) :: l => if i = id then some (acc + b) else dueF id (acc + b) l
def look (id : Int) (l : TL) : Option Int := (l.find? (fun x => x.1 = id)).map (·.2)
theorem dueF_look (id : Int) : ∀ (l : TL) (acc : Int), dueF id acc l = look id (absL acc l)
  | [], acc => rfl
  | (i, b) :: l, acc => by
    by_cases h : i = id
    · simp [dueF, look, absL, h]
    · simp only [dueF, if_neg h, absL]
      rw [dueF_look id l]
      simp [look, h]
/-! ### a tick -/
def popF : TL → List Int × TL
  | [] => ([], [])
  | (i, b) :: l => if b = 0 then (i :: (popF l).1, (popF l).2) else ([], (i, b) :: l)
def tickF : TL → List Int × TL
  | [] => ([], [])
  | (i, b) :: l => popF ((i, b - 1) :: l)
def dec (x : Int × Int) : Int × Int := (x.1, x.2 - 1)
theorem absL_dec (i b : Int) (l : TL) (acc : Int) : absL acc ((i, b - 1) :: l) = (absL acc ((i, b) :: l)).map dec := by
  have key : ∀ (l : TL) (acc : Int), absL (acc - 1) l = (absL acc l).map dec := by
    intro l
    induction l with
    | nil => intro acc; rfl
    | cons x l ih =>
      intro acc
      obtain ⟨i, b⟩ := x
      simp only [absL, List.map_cons]
      rw [show acc - 1 + b = acc + b - 1 by omega, ih]; rfl
  simp only [absL, List.map_cons]
  rw [show acc + (b - 1) = acc + b - 1 by omega, key]; rfl
theorem popF_is : ∀ (l : TL), (∀ x ∈ l, 0 ≤ x.2) → (popF l).1 = ((absL 0 l).filter (fun x => x.2 = 0)).map (·.1) ∧ absL 0 (popF l).2 = (absL 0 l).filter (fun x => x.2 ≠ 0)
  | [], _ => ⟨rfl, rfl⟩
  | (i, b) :: l, h => by
    have hb : (0 : Int) ≤ b := h (i, b) (by simp)
    by_cases h0 : b = 0
    · subst h0
      obtain ⟨h1, h2⟩ := popF_is l fun x hx => h x (by simp [hx])
      simp only [popF, if_true, absL, Int.add_zero]
      rw [List.filter_cons_of_pos (by simp), List.filter_cons_of_neg (by simp)]
      exact ⟨by rw [List.map_cons, ← h1], h2⟩
    · simp only [popF, if_neg h0]
      have hge := absL_mem_ge (acc := 0 + b) (l := l) fun x hx => h x (by simp [hx])
      have hall : ∀ y ∈ absL 0 ((i, b) :: l), y.2 ≠ 0 := fun y hy => by
        simp only [absL, List.mem_cons] at hy
        rcases hy with rfl | hy
        · show 0 + b ≠ 0; omega
        · have := hge y hy; omega
      refine ⟨?_, ?_⟩
      · rw [List.filter_eq_nil_iff.2 fun y hy => by simpa using hall y hy]; rfl
      · exact (List.filter_eq_self.2 fun y hy => by simpa using hall y hy).symm
/-! ### the same as timers as they were added -/
def Sorted (l : TL) : Prop := l.Pairwise (fun x y => x.2 ≤ y.2)
theorem insA_sorted {x : Int × Int} {l : TL} (h : Sorted l) : Sorted (insA x l) := by
  induction l with
  | nil => simp [insA, Sorted]
  | cons y l ih =>
    obtain ⟨h1, h2⟩ := List.pairwise_cons.1 h
    simp only [insA]
    split
    · rename_i hle
      refine List.pairwise_cons.2 ⟨fun z hz => ?_, ih h2⟩
      rcases insA_mem.1 hz with rfl | hz
      · exact hle
      · exact h1 z hz
    · rename_i hle
      refine List.pairwise_cons.2 ⟨fun z hz => ?_, h⟩
      rcases List.mem_cons.1 hz with rfl | hz
      · omega
      · have := h1 z hz; omega
theorem srt_sorted (r : TL) : Sorted (srt r) := by
  refine snoc_ind (P := fun r => Sorted (srt r)) List.Pairwise.nil (fun l x ih => ?_) _ r rfl
  rw [srt_snoc]; exact insA_sorted ih
theorem insA_head {x : Int × Int} {l : TL} (h : ∀ y ∈ l, x.2 < y.2) : insA x l = x :: l := by
  cases l with
  | nil => rfl
  | cons y l =>
    simp only [insA]
    rw [if_neg (by have := h y (by simp); omega)]
theorem insA_tail {x : Int × Int} {l : TL} (h : ∀ y ∈ l, y.2 ≤ x.2) : insA x l = l ++ [x] := by
  induction l with
  | nil => rfl
  | cons y l ih =>
    simp only [insA]
    rw [if_pos (h y (by simp)), ih fun z hz => h z (by simp [hz])]; rfl
theorem filter_insA (P : Int × Int → Bool) (x : Int × Int) {l : TL} (hs : Sorted l) : (insA x l).filter P = if P x then insA x (l.filter P) else l.filter P := by
  induction l with
  | nil => simp only [insA, List.filter_nil]; split <;> simp [*]
  | cons y l ih =>
    obtain ⟨h1, h2⟩ := List.pairwise_cons.1 hs
    simp only [insA]
    by_cases hle : y.2 ≤ x.2
    · rw [if_pos hle]
      cases hy : P y
      · rw [List.filter_cons_of_neg (by simp [hy]), List.filter_cons_of_neg (by simp [hy]), ih h2]
      · rw [List.filter_cons_of_pos hy, List.filter_cons_of_pos hy, ih h2]
        split
        · simp only [insA]; rw [if_pos hle]
        · rfl
    · rw [if_neg hle]
      cases hx : P x
      · rw [List.filter_cons_of_neg (by simp [hx])]; simp
      · rw [List.filter_cons_of_pos hx]
        simp only [if_true]
        refine (insA_head fun z hz => ?_).symm
        rcases List.mem_cons.1 (List.mem_filter.1 hz).1 with rfl | hz
        · omega
        · have := h1 z hz; omega
theorem srt_filter (P : Int × Int → Bool) (r : TL) : srt (r.filter P) = (srt r).filter P := by
  refine snoc_ind (P := fun r => srt (r.filter P) = (srt r).filter P) rfl (fun l x ih => ?_) _ r rfl
  rw [List.filter_append, srt_snoc, filter_insA P x (srt_sorted l)]
  cases hx : P x
  · rw [List.filter_cons_of_neg (by simp [hx]), List.filter_nil, List.append_nil, ih]; simp
  · rw [List.filter_cons_of_pos hx, List.filter_nil, srt_snoc, ih]; simp
theorem insA_dec (x : Int × Int) (l : TL) : insA (dec x) (l.map dec) = (insA x l).map dec := by
  induction l with
  | nil => rfl
  | cons y l ih =>
    simp only [List.map_cons, insA]
    by_cases h : y.2 ≤ x.2
    · rw [if_pos h, if_pos (show (dec y).2 ≤ (dec x).2 by simp only [dec]; omega), ih]; rfl
    · rw [if_neg h, if_neg (show ¬ (dec y).2 ≤ (dec x).2 by simp only [dec]; omega)]; rfl
theorem srt_dec (r : TL) : srt (r.map dec) = (srt r).map dec := by
  refine snoc_ind (P := fun r => srt (r.map dec) = (srt r).map dec) rfl (fun l x ih => ?_) _ r rfl
  rw [List.map_append, List.map_cons, List.map_nil, srt_snoc, srt_snoc, ih, insA_dec]
theorem srt_const {t : Int} {r : TL} (h : ∀ x ∈ r, x.2 = t) : srt r = r := by
  revert h
  refine snoc_ind (P := fun r => (∀ x ∈ r, x.2 = t) → srt r = r) (fun _ => rfl) (fun l x ih h => ?_) _ r rfl
  have hl : ∀ x ∈ l, x.2 = t := fun y hy => h y (by simp [hy])
  rw [srt_snoc, ih hl]
  exact insA_tail fun y hy => by rw [hl y hy, h x (by simp)]; exact Int.le_refl _
theorem srt_min {a b : TL} {m : Int × Int} (ha : ∀ x ∈ a, m.2 < x.2) (hb : ∀ x ∈ b, m.2 ≤ x.2) : srt (a ++ m :: b) = m :: srt (a ++ b) := by
  revert hb
  refine snoc_ind (P := fun b => (∀ x ∈ b, m.2 ≤ x.2) → srt (a ++ m :: b) = m :: srt (a ++ b)) (fun _ => ?_) (fun l x ih h => ?_) _ b rfl
  · rw [srt_snoc, List.append_nil]
    exact insA_head fun y hy => ha y (srt_mem.1 hy)
  · rw [show a ++ m :: (l ++ [x]) = (a ++ m :: l) ++ [x] by simp, srt_snoc, ih fun y hy => h y (by simp [hy]), ← List.append_assoc, srt_snoc]
    simp only [insA]
    rw [if_pos (h x (by simp))]
/-! ### distinct numbers -/
def Dist (l : TL) : Prop := l.Pairwise (fun x y => x.1 ≠ y.1)
theorem insA_perm (x : Int × Int) (l : TL) : (insA x l).Perm (x :: l) := by
  induction l with
  | nil => exact List.Perm.refl _
  | cons y l ih =>
    simp only [insA]
    split
    · exact (ih.cons y).trans (List.Perm.swap x y l)
    · exact List.Perm.refl _
theorem srt_perm (r : TL) : (srt r).Perm r := by
  refine snoc_ind (P := fun r => (srt r).Perm r) (List.Perm.refl _) (fun l x ih => ?_) _ r rfl
  rw [srt_snoc]
  exact (insA_perm x _).trans ((ih.cons x).trans (List.perm_append_comm (l₁ := [x]) (l₂ := l)))
theorem dist_srt {r : TL} (h : Dist r) : Dist (srt r) := (srt_perm r).symm.pairwise h fun hne => hne.symm
theorem erase_filter {id : Int} {l : TL} (h : Dist l) : l.eraseP (fun x => x.1 = id) = l.filter (fun x => x.1 ≠ id) := by
  induction l with
  | nil => rfl
  | cons y l ih =>
    obtain ⟨h1, h2⟩ := List.pairwise_cons.1 h
    by_cases hy : y.1 = id
    · rw [List.eraseP_cons_of_pos (by simpa using hy), List.filter_cons_of_neg (by simpa using hy)]
      exact (List.filter_eq_self.2 fun z hz => by have := h1 z hz; simp; exact fun e => this (hy.trans e.symm)).symm
    · rw [List.eraseP_cons_of_neg (by simpa using hy), List.filter_cons_of_pos (by simpa using hy), ih h2]
theorem look_some {id t : Int} {l : TL} (h : Dist l) : look id l = some t ↔ (id, t) ∈ l := by
  induction l with
  | nil => simp [look]
  | cons y l ih =>
    obtain ⟨h1, h2⟩ := List.pairwise_cons.1 h
    obtain ⟨i, b⟩ := y
    by_cases hy : i = id
    · subst hy
      have e0 : look i ((i, b) :: l) = some b := by simp [look]
      rw [e0]
      simp only [Option.some.injEq, List.mem_cons, Prod.mk.injEq, true_and]
      constructor
      · intro e; exact .inl e.symm
      · rintro (e | e)
        · exact e.symm
        · exact (h1 (i, t) e rfl).elim
    · have : look id ((i, b) :: l) = look id l := by simp [look, hy]
      rw [this, ih h2]
      simp [Ne.symm hy]
theorem look_eq {id : Int} {l m : TL} (hl : Dist l) (hm : Dist m) (h : ∀ x, x ∈ l ↔ x ∈ m) : look id l = look id m := by
  cases h1 : look id l with
  | some t => exact ((look_some hm).2 ((h _).1 ((look_some hl).1 h1))).symm
  | none =>
    cases h2 : look id m with
    | none => rfl
    | some t => rw [(look_some hl).2 ((h _).2 ((look_some hm).1 h2))] at h1; cases h1
theorem look_none {id : Int} {l : TL} : look id l = none ↔ ∀ x ∈ l, x.1 ≠ id := by
  simp [look, List.find?_eq_none]
/-! ### what holds between the row and the timers as they were added -/
structure DInv (A r : TL) : Prop where
  abs : absL 0 A = srt r
  nn : ∀ x ∈ A, 0 ≤ x.2
  tk : ∀ x ∈ r, 1 ≤ x.2 ∧ x.2 ≤ 65536
  ds : Dist r
  len : r.length ≤ 64
theorem DInv.size {A r : TL} (h : DInv A r) : A.length = r.length := by
  have := congrArg List.length h.abs
  rwa [absL_length, srt_length] at this
theorem dinv_nil : DInv [] [] := ⟨rfl, fun x hx => (by cases hx), fun x hx => (by cases hx), List.Pairwise.nil, by simp⟩
theorem DInv.due {A r : TL} (h : DInv A r) (id : Int) : dueF id 0 A = look id r := by
  rw [dueF_look, h.abs]
  exact look_eq (dist_srt h.ds) h.ds fun x => srt_mem
theorem absL_behind {acc : Int} {l : TL} (h0 : 0 ≤ acc) (h : ∀ x ∈ l, 0 ≤ x.2) {B : Int} (hB : ∀ y ∈ absL acc l, y.2 ≤ B) : ∀ x ∈ l, x.2 ≤ B := by
  induction l generalizing acc with
  | nil => intro x hx; cases hx
  | cons y l ih =>
    obtain ⟨i, b⟩ := y
    have hb : (0 : Int) ≤ b := h (i, b) (by simp)
    have h1 : acc + b ≤ B := hB (i, acc + b) (by simp [absL])
    intro x hx
    rcases List.mem_cons.1 hx with rfl | hx
    · show b ≤ B; omega
    · exact ih (acc := acc + b) (by omega) (fun x hx => h x (by simp [hx])) (fun y hy => hB y (by simp [absL, hy])) x hx
theorem DInv.bound {A r : TL} (h : DInv A r) : ∀ x ∈ A, 0 ≤ x.2 ∧ x.2 ≤ 65536 := fun x hx =>
  ⟨h.nn x hx, absL_behind (Int.le_refl 0) h.nn (fun y hy => by rw [h.abs] at hy; exact (h.tk y (srt_mem.1 hy)).2) x hx⟩
theorem DInv.absb {A r : TL} (h : DInv A r) : ∀ y ∈ absL 0 A, 1 ≤ y.2 ∧ y.2 ≤ 65536 := fun y hy => h.tk y (srt_mem.1 (h.abs ▸ hy))
def dropR (id : Int) (r : TL) : TL := r.filter fun x => x.1 ≠ id
theorem cancel_nn (id : Int) : ∀ (l : TL), (∀ x ∈ l, 0 ≤ x.2) → ∀ x ∈ (cancelF id l).1, 0 ≤ x.2
  | [], _ => fun x hx => by cases hx
  | (i, b) :: l, h => by
    have hb : (0 : Int) ≤ b := h (i, b) (by simp)
    have hl : ∀ x ∈ l, 0 ≤ x.2 := fun x hx => h x (by simp [hx])
    simp only [cancelF]
    split
    · cases l with
      | nil => intro x hx; cases hx
      | cons y m =>
        obtain ⟨j, c⟩ := y
        have hc : (0 : Int) ≤ c := hl (j, c) (by simp)
        intro x hx
        rcases List.mem_cons.1 hx with rfl | hx
        · show 0 ≤ c + b; omega
        · exact hl x (by simp [hx])
    · intro x hx
      rcases List.mem_cons.1 hx with rfl | hx
      · exact hb
      · exact cancel_nn id l hl x hx
theorem DInv.cancel {A r : TL} (h : DInv A r) (id : Int) : DInv (cancelF id A).1 (dropR id r) ∧ ((cancelF id A).2 = true ↔ ∃ x ∈ r, x.1 = id) := by
  obtain ⟨h1, h2⟩ := absL_cancel id A 0
  refine ⟨⟨?_, cancel_nn id A h.nn, fun x hx => h.tk x (List.mem_filter.1 hx).1, List.Pairwise.filter _ h.ds, Nat.le_trans (List.length_filter_le _ _) h.len⟩, ?_⟩
  · rw [h1, h.abs, erase_filter (dist_srt h.ds)]
    exact (srt_filter _ r).symm
  · rw [h2, h.abs]
    constructor
    · rintro ⟨x, hx, e⟩; exact ⟨x, srt_mem.1 hx, e⟩
    · rintro ⟨x, hx, e⟩; exact ⟨x, srt_mem.2 hx, e⟩
theorem ins_nn (id : Int) : ∀ (l : TL) (t : Int), 0 ≤ t → (∀ x ∈ l, 0 ≤ x.2) → ∀ x ∈ insF id t l, 0 ≤ x.2
  | [], t, ht, _ => fun x hx => by
    simp only [insF, List.mem_singleton] at hx
    subst hx; exact ht
  | (i, b) :: l, t, ht, h => by
    have hb : (0 : Int) ≤ b := h (i, b) (by simp)
    have hl : ∀ x ∈ l, 0 ≤ x.2 := fun x hx => h x (by simp [hx])
    simp only [insF]
    split
    · rename_i hle
      intro x hx
      rcases List.mem_cons.1 hx with rfl | hx
      · exact hb
      · exact ins_nn id l (t - b) (by omega) hl x hx
    · rename_i hle
      intro x hx
      simp only [List.mem_cons] at hx
      rcases hx with rfl | rfl | hx
      · exact ht
      · show 0 ≤ b - t; omega
      · exact hl x hx
theorem DInv.add {A r : TL} (h : DInv A r) (id t : Int) (ht : 1 ≤ t ∧ t ≤ 65536) (hn : (dropR id r).length < 64) : DInv (insF id t (cancelF id A).1) (dropR id r ++ [(id, t)]) := by
  obtain ⟨hc, _⟩ := h.cancel id
  refine ⟨?_, ins_nn id _ t (by omega) hc.nn, fun x hx => ?_, ?_, ?_⟩
  · rw [absL_ins, hc.abs, srt_snoc, Int.zero_add]
  · rcases List.mem_append.1 hx with hx | hx
    · exact hc.tk x hx
    · simp only [List.mem_singleton] at hx; subst hx; exact ht
  · refine List.pairwise_append.2 ⟨hc.ds, List.pairwise_singleton .., fun x hx y hy => ?_⟩
    simp only [List.mem_singleton] at hy
    subst hy
    simpa using (List.mem_filter.1 hx).2
  · rw [List.length_append]; simp; omega
theorem dropR_length {id : Int} {r : TL} (h : ∃ x ∈ r, x.1 = id) : (dropR id r).length < r.length := by
  obtain ⟨x, hx, e⟩ := h
  refine Nat.lt_of_le_of_ne (List.length_filter_le _ _) fun he => ?_
  have := List.filter_eq_self.1 (List.filter_sublist.eq_of_length he) x hx
  simp [e] at this
theorem dropR_none {id : Int} {r : TL} (h : ¬ ∃ x ∈ r, x.1 = id) : dropR id r = r := List.filter_eq_self.2 fun x hx => by simp; exact fun e => h ⟨x, hx, e⟩
/-- A tick: those that are left, those that are due. -/
def leftR (r : TL) : TL := (r.filter fun x => x.2 ≠ 1).map dec
def dueR (r : TL) : List Int := (r.filter fun x => x.2 = 1).map (·.1)
theorem popF_sub : ∀ (l : TL), ∀ x ∈ (popF l).2, x ∈ l
  | [], x, hx => by cases hx
  | (i, b) :: l, x, hx => by
    simp only [popF] at hx
    split at hx
    · exact List.mem_cons_of_mem _ (popF_sub l x hx)
    · exact hx
theorem DInv.tick {A r : TL} (h : DInv A r) : DInv (tickF A).2 (leftR r) ∧ (tickF A).1 = dueR r := by
  cases A with
  | nil =>
    have hr : r = [] := by
      have := h.size
      exact List.eq_nil_of_length_eq_zero this.symm
    subst hr
    exact ⟨dinv_nil, rfl⟩
  | cons y l =>
    obtain ⟨i, b⟩ := y
    have hb1 : 1 ≤ b := by have := (h.absb (i, 0 + b) (by simp [absL])).1; simpa using this
    have hnn : ∀ x ∈ ((i, b - 1) :: l : TL), 0 ≤ x.2 := fun x hx => by
      rcases List.mem_cons.1 hx with rfl | hx
      · show 0 ≤ b - 1; omega
      · exact h.nn x (by simp [hx])
    obtain ⟨h1, h2⟩ := popF_is _ hnn
    rw [absL_dec, h.abs] at h1 h2
    have hf0 : (fun x : Int × Int => decide (x.2 = 0)) ∘ dec = fun x => decide (x.2 = 1) := by
      funext x
      obtain ⟨xi, xt⟩ := x
      show decide _ = decide _
      rw [decide_eq_decide]
      show (xt - 1 = 0) ↔ xt = 1
      omega
    have hf1 : (fun x : Int × Int => decide (x.2 ≠ 0)) ∘ dec = fun x => decide (x.2 ≠ 1) := by
      funext x
      obtain ⟨xi, xt⟩ := x
      show decide _ = decide _
      rw [decide_eq_decide]
      show (xt - 1 ≠ 0) ↔ xt ≠ 1
      omega
    rw [List.filter_map, hf0, List.map_map] at h1
    rw [List.filter_map, hf1] at h2
    refine ⟨⟨?_, fun x hx => hnn x (popF_sub _ x hx), fun x hx => ?_, ?_, ?_⟩, ?_⟩
    · show absL 0 (popF ((i, b - 1) :: l)).2 = _
      rw [h2]
      unfold leftR
      rw [srt_dec, srt_filter]
    · obtain ⟨z, hz, rfl⟩ := List.mem_map.1 hx
      obtain ⟨hz1, hz2⟩ := List.mem_filter.1 hz
      have := h.tk z hz1
      have hz2 : z.2 ≠ 1 := by simpa using hz2
      show 1 ≤ z.2 - 1 ∧ z.2 - 1 ≤ 65536
      omega
    · exact List.Pairwise.map _ (fun _ _ h => h) (List.Pairwise.filter _ h.ds)
    · unfold leftR
      rw [List.length_map]
      exact Nat.le_trans (List.length_filter_le _ _) h.len
    · show (popF ((i, b - 1) :: l)).1 = _
      rw [h1]
      unfold dueR
      rw [← srt_filter, srt_const (t := 1) (r := r.filter fun x => decide (x.2 = 1)) fun x hx => by simpa using (List.mem_filter.1 hx).2]
      rfl
end Go.Proofs.Ytdccpbnknfffaaa
