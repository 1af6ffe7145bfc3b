/-
  A delta queue in memory; contracts of Len, Cancel, and of what Add and Tick do to the row.
-/
import Derived.Test.YtdccpbnknfffaaaDeltaRow
import Derived.Test.YtdccpbnknfffaaaSave
import Derived.Test.YtdccpbnknfffaaaRow
import Derived.Test.YtdccpbnknfffaaaStage
import Derived.IntWalk
namespace Go.Proofs.Ytdccpbnknfffaaa
open Go.RowKit
theorem cset_ne {w : World} {a b : Addr} {v : Value} (h : a ≠ b) : (w.setCell a v).cell? b = w.cell? b := by
  exact World.cell?_setCell_other (h := h) ..
theorem cset_far {w : World} {p a : Addr} {v : Value} (h : p.block ≠ a.block) : (w.setCell p v).cell? a = w.cell? a :=
  World.cell?_of_block (w := w) (Below.heap_setCell w p v a.block (fun e => h e.symm))
/-- A timer's block. -/
@[reducible] def tO (x : Nat × Int × Int) (nx : Option Addr) : Obj := .cells #[.int .i64 x.2.1, .int .i64 x.2.2, .pointer nx] 69 (0, 0)
/-- The timers lie there, one behind the other. -/
def Ch (W : World) : List (Nat × Int × Int) → Prop
  | [] => True
  | x :: l => W.heap[x.1]? = some (tO x (nextp l)) ∧ Ch W l
theorem Ch.at_ {W : World} : ∀ {L : List (Nat × Int × Int)} {k : Nat}, Ch W L → ∀ hk : k < L.length, W.heap[(L[k]).1]? = some (tO (L[k]) (nextp (L.drop (k + 1))))
  | [], k, _, hk => by simp at hk
  | x :: l, 0, h, _ => h.1
  | x :: l, k + 1, h, hk => by
    have := Ch.at_ (k := k) h.2 (by simpa using hk)
    simpa using this
theorem Ch.drop {W : World} : ∀ {L : List (Nat × Int × Int)} (k : Nat), Ch W L → Ch W (L.drop k)
  | L, 0, h => h
  | [], k + 1, h => h
  | x :: l, k + 1, h => Ch.drop (L := l) k h.2
theorem Ch.frame {W W' : World} : ∀ {L : List (Nat × Int × Int)}, Ch W L → (∀ x ∈ L, W'.heap[x.1]? = W.heap[x.1]?) → Ch W' L
  | [], _, _ => trivial
  | x :: l, h, hf => ⟨(hf x (by simp)).trans h.1, Ch.frame h.2 fun y hy => hf y (by simp [hy])⟩
/-- What stands ahead of a place stays, but that its last one points to another. -/
theorem Ch.relink {W W' : World} : ∀ (P R R' : List (Nat × Int × Int)), ((P ++ R).map (·.1)).Nodup → Ch W (P ++ R) → Ch W' R' → (∀ x ∈ P, P.getLast? ≠ some x → W'.heap[x.1]? = W.heap[x.1]?) → (∀ x, P.getLast? = some x → W'.heap[x.1]? = some (tO x (nextp R'))) → Ch W' (P ++ R')
  | [], R, R', _, _, h', _, _ => h'
  | [x], R, R', _, _, h', _, hl => ⟨hl x rfl, h'⟩
  | x :: y :: P, R, R', hn, h, h', hs, hl => by
    have hlast : (x :: y :: P).getLast? = (y :: P).getLast? := by simp [List.getLast?_cons_cons]
    have hn2 := List.nodup_cons.1 (by simpa using hn : (x.1 :: ((y :: P ++ R).map (·.1))).Nodup)
    refine ⟨?_, Ch.relink (y :: P) R R' (by simpa using hn2.2) h.2 h' (fun z hz hne => hs z (by simp [hz]) (by rw [hlast]; exact hne)) fun z hz => hl z (by rw [hlast]; exact hz)⟩
    have hxl : (x :: y :: P).getLast? ≠ some x := fun e => by
      rw [hlast] at e
      have hm := List.mem_of_getLast? e
      exact hn2.1 (List.mem_map.2 ⟨x, List.mem_append_left _ hm, rfl⟩)
    exact (hs x (by simp) hxl).trans h.1
structure DQ (W : World) (base qb qo : Nat) (L : List (Nat × Int × Int)) : Prop where
  first : W.cell? ⟨qb, qo, none⟩ = some (.pointer (nextp L))
  many : W.cell? ⟨qb, qo + 1, none⟩ = some (.int .i64 (L.length : Int))
  f0 : W.frozen? ⟨qb, qo, none⟩ = false
  f1 : W.frozen? ⟨qb, qo + 1, none⟩ = false
  ch : Ch W L
  nd : (L.map (·.1)).Nodup
  nq : ∀ x ∈ L, x.1 ≠ qb
  low : base ≤ qb ∧ ∀ x ∈ L, base ≤ x.1
/-- What an operation on the queue keeps: all blocks but the queue's and its timers', and the other cells of the queue's block. -/
structure DSave (qb qo : Nat) (L : List (Nat × Int × Int)) (w w' : World) : Prop where
  s : Save (fun k => k = qb ∨ ∃ x ∈ L, x.1 = k) w w'
  c : ∀ o, o ≠ qo → o ≠ qo + 1 → w'.cell? ⟨qb, o, none⟩ = w.cell? ⟨qb, o, none⟩
  f : ∀ o, w'.frozen? ⟨qb, o, none⟩ = w.frozen? ⟨qb, o, none⟩
theorem DQ.lt {W : World} {base qb qo : Nat} {L : List (Nat × Int × Int)} (h : DQ W base qb qo L) : qb < W.heap.size := cell_lt h.first
theorem Ch.lt {W : World} {L : List (Nat × Int × Int)} (h : Ch W L) : ∀ x ∈ L, x.1 < W.heap.size := fun x hx => by
  obtain ⟨k, hk, rfl⟩ := List.getElem_of_mem hx
  exact (Array.getElem?_eq_some_iff.1 (h.at_ hk)).1
theorem DQ.below {W W' : World} {base qb qo : Nat} {L : List (Nat × Int × Int)} (h : DQ W base qb qo L) (hb : Below W.heap.size W W') : DQ W' base qb qo L :=
  ⟨(hb.cell (cell_lt h.first)).trans h.first, (hb.cell (cell_lt h.many)).trans h.many, (hb.frozen (cell_lt h.first)).trans h.f0, (hb.frozen (cell_lt h.many)).trans h.f1,
    h.ch.frame fun x hx => hb.block _ (h.ch.lt x hx), h.nd, h.nq, h.low⟩
/-- The place of a pointer that is to be followed: the queue's own, or the last timer's ahead. -/
def PosAt (qb qo : Nat) (L : List (Nat × Int × Int)) (k pb po : Nat) : Prop := (k = 0 ∧ pb = qb ∧ po = qo) ∨ (∃ j, ∃ h : j < L.length, k = j + 1 ∧ pb = (L[j]).1 ∧ po = 2)
theorem tO_cell {W : World} {x : Nat × Int × Int} {nx : Option Addr} (h : W.heap[x.1]? = some (tO x nx)) : W.cell? ⟨x.1, 0, none⟩ = some (.int .i64 x.2.1) ∧ W.cell? ⟨x.1, 1, none⟩ = some (.int .i64 x.2.2) ∧ W.cell? ⟨x.1, 2, none⟩ = some (.pointer nx) ∧ (∀ o, W.frozen? ⟨x.1, o, none⟩ = false) :=
  ⟨by simp [World.cell?, h], by simp [World.cell?, h], by simp [World.cell?, h], fun o => by simp [World.frozen?, h]⟩
theorem PosAt.cell {W : World} {base qb qo : Nat} {L : List (Nat × Int × Int)} (hq : DQ W base qb qo L) {k pb po : Nat} (h : PosAt qb qo L k pb po) : W.cell? ⟨pb, po, none⟩ = some (.pointer (nextp (L.drop k))) ∧ W.frozen? ⟨pb, po, none⟩ = false := by
  rcases h with ⟨rfl, rfl, rfl⟩ | ⟨j, hj, rfl, rfl, rfl⟩
  · exact ⟨hq.first, hq.f0⟩
  · obtain ⟨_, _, h3, h4⟩ := tO_cell (hq.ch.at_ hj)
    exact ⟨h3, h4 2⟩
theorem PosAt.next {qb qo : Nat} {L : List (Nat × Int × Int)} {k : Nat} (h : k < L.length) : PosAt qb qo L (k + 1) (L[k]).1 2 := .inr ⟨k, h, rfl, rfl, rfl⟩
/-- The place that a pointer's address tells. -/
def posV (qb : Nat) (L : List (Nat × Int × Int)) : Value → Nat
  | .pointer (some a) => if a.block = qb then 0 else idxB a.block L + 1
  | _ => 0
theorem posV_at {W : World} {base qb qo : Nat} {L : List (Nat × Int × Int)} (hq : DQ W base qb qo L) {k pb po : Nat} (h : PosAt qb qo L k pb po) : posV qb L (.pointer (some ⟨pb, po, none⟩)) = k := by
  rcases h with ⟨rfl, rfl, rfl⟩ | ⟨j, hj, rfl, rfl, rfl⟩
  · simp [posV]
  · simp only [posV]
    rw [if_neg (hq.nq _ (List.getElem_mem hj)), idxB_at hq.nd hj]
theorem getLast_take {L : List (Nat × Int × Int)} {j : Nat} (hj : j < L.length) : (L.take (j + 1)).getLast? = some L[j] := by
  rw [List.take_succ_eq_append_getElem hj, List.getLast?_append]; rfl
theorem nextp_append {A B C : List (Nat × Int × Int)} (h : A ≠ []) : nextp (A ++ B) = nextp (A ++ C) := by
  cases A with
  | nil => exact absurd rfl h
  | cons x l => rfl
/-- From a place on, the row is another one. -/
theorem DQ.relink {W Wa : World} {base qb qo : Nat} {L : List (Nat × Int × Int)} (hq : DQ W base qb qo L) {k pb po : Nat} (hk : k ≤ L.length) (hp : PosAt qb qo L k pb po) (R' : List (Nat × Int × Int)) {S : Nat → Prop} (hs : Save S W Wa) (hS1 : ¬ S qb) (hS2 : ∀ x ∈ L.take k, ¬ S x.1)
    (hR : Ch Wa R') (hnd : ((L.take k ++ R').map (·.1)).Nodup) (hnq : ∀ x ∈ R', x.1 ≠ qb) (hlow : ∀ x ∈ R', base ≤ x.1) (n : Int) (hn : n = ((L.take k ++ R').length : Int)) :
    DQ ((Wa.setCell ⟨pb, po, none⟩ (.pointer (nextp R'))).setCell ⟨qb, qo + 1, none⟩ (.int .i64 n)) base qb qo (L.take k ++ R') := by
  have hqb : Wa.heap[qb]? = W.heap[qb]? := hs.block qb hq.lt hS1
  have cq : ∀ o, Wa.cell? ⟨qb, o, none⟩ = W.cell? ⟨qb, o, none⟩ := fun o => World.cell?_of_block (w := W) (w' := Wa) (a := ⟨qb, o, none⟩) hqb
  have fq : ∀ o, Wa.frozen? ⟨qb, o, none⟩ = W.frozen? ⟨qb, o, none⟩ := fun o => by simp [World.frozen?, hqb]
  have hPl : ∀ x ∈ L.take k, x.1 < W.heap.size := fun x hx => hq.ch.lt x (List.mem_of_mem_take hx)
  have hWa : ∀ x ∈ L.take k, Wa.heap[x.1]? = W.heap[x.1]? := fun x hx => hs.block _ (hPl x hx) (hS2 x hx)
  have hpb : pb = qb ∨ ∃ x ∈ L.take k, x.1 = pb := by
    rcases hp with ⟨_, h, _⟩ | ⟨j, hj, rfl, rfl, _⟩
    · exact .inl h
    · exact .inr ⟨_, List.mem_of_getLast? (getLast_take hj), rfl⟩
  have hdis : ∀ x ∈ L.take k, ∀ y ∈ R', x.1 ≠ y.1 := fun x hx y hy e => by
    rw [List.map_append] at hnd
    exact (List.nodup_append.1 hnd).2.2 x.1 (List.mem_map.2 ⟨x, hx, rfl⟩) y.1 (List.mem_map.2 ⟨y, hy, rfl⟩) e
  have hRp : ∀ y ∈ R', y.1 ≠ pb := fun y hy e => by
    rcases hpb with h | ⟨x, hx, h⟩
    · exact hnq y hy (e.trans h)
    · exact hdis x hx y hy (h.trans e.symm)
  have hRw : Ch ((Wa.setCell ⟨pb, po, none⟩ (.pointer (nextp R'))).setCell ⟨qb, qo + 1, none⟩ (.int .i64 n)) R' := hR.frame fun y hy => by
    rw [heap_setCell_other _ _ _ _ (hnq y hy), heap_setCell_other _ _ _ _ (hRp y hy)]
  refine ⟨?_, ?_, ?_, ?_, ?_, hnd, fun x hx => ?_, hq.low.1, fun x hx => ?_⟩
  · rw [cset_ne (by intro e; cases e)]
    rcases hp with ⟨rfl, rfl, rfl⟩ | ⟨j, hj, rfl, rfl, rfl⟩
    · rw [World.cell?_setCell_same' _ _ _ (by rw [cq, hq.first]; rfl)]; simp
    · rw [cset_far (hq.nq _ (List.getElem_mem hj)), cq, hq.first]
      have hne : L.take (j + 1) ≠ [] := fun e => by
        have := congrArg List.length e
        rw [List.length_take, List.length_nil] at this; omega
      rw [nextp_append (C := L.drop (j + 1)) hne, List.take_append_drop]
  · rw [World.cell?_setCell_same' _ _ _ ?_, hn]
    rcases hp with ⟨rfl, rfl, rfl⟩ | ⟨j, hj, rfl, rfl, rfl⟩
    · rw [cset_ne (by intro e; cases e), cq, hq.many]; rfl
    · rw [cset_far (hq.nq _ (List.getElem_mem hj)), cq, hq.many]; rfl
  · simp only [World.frozen?_setCell]; rw [fq]; exact hq.f0
  · simp only [World.frozen?_setCell]; rw [fq]; exact hq.f1
  · refine Ch.relink (W := W) (L.take k) (L.drop k) R' (by rw [List.take_append_drop]; exact hq.nd) (by rw [List.take_append_drop]; exact hq.ch) hRw (fun x hx hne => ?_) fun x hx => ?_
    · have h1 : x.1 ≠ qb := hq.nq x (List.mem_of_mem_take hx)
      have h2 : x.1 ≠ pb := by
        rcases hp with ⟨rfl, _, _⟩ | ⟨j, hj, rfl, rfl, _⟩
        · simp at hx
        · intro e
          rw [getLast_take hj] at hne
          obtain ⟨i, hi, rfl⟩ := List.getElem_of_mem (List.mem_of_mem_take hx)
          have : i = j := by
            by_cases hij : i = j
            · exact hij
            · exact absurd e (dist_blocks hq.nd hi hj hij)
          subst this
          exact hne rfl
      rw [heap_setCell_other _ _ _ _ h1, heap_setCell_other _ _ _ _ h2, hWa x hx]
    · rcases hp with ⟨rfl, _, _⟩ | ⟨j, hj, rfl, rfl, rfl⟩
      · simp at hx
      · rw [getLast_take hj] at hx
        cases hx
        rw [heap_setCell_other _ _ _ _ (hq.nq _ (List.getElem_mem hj))]
        have hm := List.mem_of_getLast? (getLast_take hj)
        exact heap_setCell_same Wa _ 2 _ _ _ ((hWa _ hm).trans (hq.ch.at_ hj))
  · rcases List.mem_append.1 hx with h | h
    · exact hq.nq x (List.mem_of_mem_take h)
    · exact hnq x h
  · rcases List.mem_append.1 hx with h | h
    · exact hq.low.2 x (List.mem_of_mem_take h)
    · exact hlow x h
/-- The first of a row is less behind. -/
theorem ch_bump {W : World} {x : Nat × Int × Int} {l : List (Nat × Int × Int)} (h : Ch W (x :: l)) (hn : ∀ y ∈ l, y.1 ≠ x.1) (t : Int) : Ch (W.setCell ⟨x.1, 1, none⟩ (.int .i64 (x.2.2 - t))) (bump t (x :: l)) := by
  obtain ⟨b, i, c⟩ := x
  exact ⟨heap_setCell_same W b 1 _ _ _ h.1, h.2.frame fun y hy => heap_setCell_other _ _ _ _ (hn y hy)⟩
theorem bump_blocks (t : Int) (l : List (Nat × Int × Int)) : (bump t l).map (·.1) = l.map (·.1) := by
  cases l with
  | nil => rfl
  | cons x l => obtain ⟨b, i, c⟩ := x; rfl
theorem bump_mem {t : Int} {l : List (Nat × Int × Int)} {x : Nat × Int × Int} (h : x ∈ bump t l) : ∃ y ∈ l, y.1 = x.1 := by
  have : x.1 ∈ (bump t l).map (·.1) := List.mem_map.2 ⟨x, h, rfl⟩
  rw [bump_blocks] at this
  exact List.mem_map.1 this
theorem nextp_bump (t : Int) (l : List (Nat × Int × Int)) : nextp (bump t l) = nextp l := by
  cases l with
  | nil => rfl
  | cons x l => obtain ⟨b, i, c⟩ := x; rfl
theorem relink_save {W Wa : World} {base qb qo : Nat} {L : List (Nat × Int × Int)} (hq : DQ W base qb qo L) {k pb po : Nat} (hp : PosAt qb qo L k pb po) {S : Nat → Prop} (hs : Save S W Wa) (hS1 : ¬ S qb) (hS2 : ∀ b, b < W.heap.size → S b → ∃ x ∈ L, x.1 = b) (u v : Value) :
    DSave qb qo L W ((Wa.setCell ⟨pb, po, none⟩ u).setCell ⟨qb, qo + 1, none⟩ v) := by
  have hqb : Wa.heap[qb]? = W.heap[qb]? := hs.block qb hq.lt hS1
  have hpb : pb = qb ∨ ∃ x ∈ L, x.1 = pb := by
    rcases hp with ⟨_, h, _⟩ | ⟨j, hj, _, rfl, _⟩
    · exact .inl h
    · exact .inr ⟨_, List.getElem_mem hj, rfl⟩
  refine ⟨(((Save.refl (fun k => k = qb ∨ ∃ x ∈ L, x.1 = k) W).trans hs fun i hi h => .inr (hS2 i hi h)).trans (Save.set Wa pb po u) fun i _ e => by rw [e]; exact hpb).trans (Save.set _ qb (qo + 1) v) fun i _ e => .inl e, fun o h1 h2 => ?_, fun o => ?_⟩
  · rw [cset_ne (by intro e; cases e; exact h2 rfl)]
    have : (⟨pb, po, none⟩ : Addr) ≠ ⟨qb, o, none⟩ := fun e => by
      cases e
      rcases hp with ⟨_, _, rfl⟩ | ⟨j, hj, _, rfl, rfl⟩
      · exact h1 rfl
      · exact hq.nq _ (List.getElem_mem hj) rfl
    rw [cset_ne this]
    exact World.cell?_of_block (w := W) (w' := Wa) (a := ⟨qb, o, none⟩) hqb
  · simp only [World.frozen?_setCell]
    simp [World.frozen?, hqb]
theorem PosAt.ne {W : World} {base qb qo : Nat} {L : List (Nat × Int × Int)} (hq : DQ W base qb qo L) {k pb po : Nat} (h : PosAt qb qo L k pb po) : (⟨pb, po, none⟩ : Addr) ≠ ⟨qb, qo + 1, none⟩ := fun e => by
  cases e
  rcases h with ⟨_, _, h⟩ | ⟨j, hj, _, h, _⟩
  · omega
  · exact hq.nq _ (List.getElem_mem hj) h.symm
/-- A timer behind is none of those ahead. -/
theorem PosAt.behind {W : World} {base qb qo : Nat} {L : List (Nat × Int × Int)} (hq : DQ W base qb qo L) {k pb po : Nat} (h : PosAt qb qo L k pb po) {j : Nat} (hj : j < L.length) (hkj : k ≤ j) : pb ≠ (L[j]).1 := fun e => by
  rcases h with ⟨_, h, _⟩ | ⟨i, hi, rfl, h, _⟩
  · exact hq.nq _ (List.getElem_mem hj) (e.symm.trans h)
  · exact dist_blocks hq.nd hi hj (by omega) (h.symm.trans e)
theorem DQ.drewN {W : World} {base qb qo : Nat} {L : List (Nat × Int × Int)} (h : DQ W base qb qo L) (n : Nat) : DQ (W.drewN n) base qb qo L :=
  ⟨h.first, h.many, h.f0, h.f1, h.ch.frame fun _ _ => rfl, h.nd, h.nq, h.low⟩
theorem DSave.from_drewN {w w' : World} {qb qo n : Nat} {L : List (Nat × Int × Int)} (h : DSave qb qo L (w.drewN n) w') : DSave qb qo L w w' :=
  ⟨h.s.from_drewN, h.c, h.f⟩
/-! ### Len, Cancel -/
theorem dlen_any (base qb qo : Nat) (L : List (Nat × Int × Int)) (w : World) (hq : DQ w base qb qo L) : Calls Try.prog 16 #[.pointer (some ⟨qb, qo, none⟩)] w fun e w' => e = .returned (.int .i64 (L.length : Int)) ∧ w = w' := by
  have c1 := hq.many
  go_enter Try.func16, Try.ntmps16
  go_wp2
  go_ret
  exact ⟨rfl, rfl⟩
def CancelPost (base qb qo : Nat) (L : List (Nat × Int × Int)) (id : Int) (w : World) (e : Ending) (w' : World) : Prop :=
  ∃ L' : List (Nat × Int × Int), e = .returned (.bool (cancelF id (tlOf L)).2) ∧ DQ w' base qb qo L' ∧ tlOf L' = (cancelF id (tlOf L)).1 ∧ (∀ x ∈ L', ∃ y ∈ L, y.1 = x.1) ∧ DSave qb qo L w w'
attribute [local go_sem] Oper.quietS Oper.effS effUpon Drawn
set_option maxRecDepth 100000 in
set_option maxHeartbeats 1000000 in
theorem dcancel_any (base qb qo : Nat) (L : List (Nat × Int × Int)) (id : Int) (w : World) (hq : DQ w base qb qo L) (hb : ∀ x ∈ L, 0 ≤ x.2.2 ∧ x.2.2 ≤ 65536) (hn : L.length ≤ 64) :
    Calls Try.prog 8 #[.pointer (some ⟨qb, qo, none⟩), .int .i64 id] w fun e w' => CancelPost base qb qo L id w e w' := by
  obtain ⟨n, hnn⟩ : ∃ n, L.length = n := ⟨_, rfl⟩
  have HN := hid hnn
  have hn64 : n ≤ 64 := by omega
  go_enter Try.func8, Try.ntmps8
  go_wp2
  go_loop [5] (fun at_ => ∃ k pb po : Nat, at_ = .pointer (some ⟨pb, po, none⟩) ∧ k ≤ n ∧ Hid (PosAt qb qo L k pb po) ∧ Hid (∀ j, j < k → ∀ h : j < L.length, (L[j]).2.1 ≠ id)) (fun at_ => n - posV qb L at_)
  case atStart => exact ⟨0, qb, qo, rfl, Nat.zero_le _, .inl ⟨rfl, rfl, rfl⟩, fun j hj => by omega⟩
  case round =>
    obtain ⟨k, pb, po, rfl, hk, HP, HNO⟩ := hrel
    obtain ⟨ca, fa⟩ := HP.out.cell hq
    by_cases hlt : k < n
    · have hkl : k < L.length := by omega
      rw [nextp_drop hkl] at ca
      obtain ⟨t0, t1, t2, tf⟩ := tO_cell (hq.ch.at_ hkl)
      obtain ⟨x, hx⟩ : ∃ x, L[k] = x := ⟨_, rfl⟩
      have HX := hid hx
      have HKL := hid hkl
      rw [hx] at ca t0 t1 t2 tf
      obtain ⟨b, i, c⟩ := x
      dsimp only at ca t0 t1 t2 tf
      by_cases hi : i = id
      · subst hi
        have ti : (i != i) = false := by simp
        have HC := hid (cancelF_at (L := L) (id := i) hkl (fun j hj h => HNO.out j hj h) (by rw [hx]))
        have HCL := hid (show cutL k L = L.take k ++ bump (-c) (L.drop (k + 1)) by
          unfold cutL
          rw [List.drop_eq_getElem_cons hkl, hx])
        have hc := hb _ (List.getElem_mem hkl)
        rw [hx] at hc
        dsimp only at hc
        have cm := hq.many
        have fm := hq.f1
        rw [hnn] at cm
        have hne := HP.out.ne hq
        by_cases h2 : k + 1 < n
        · have hk2 : k + 1 < L.length := by omega
          rw [nextp_drop hk2] at t2
          obtain ⟨n0, n1, n2, nf⟩ := tO_cell (hq.ch.at_ hk2)
          have hbn : b ≠ (L[k + 1]).1 := fun e => dist_blocks hq.nd hkl hk2 (by omega) (by rw [hx]; exact e)
          have hpn := HP.out.behind hq hk2 (by omega)
          have hqn := hq.nq _ (List.getElem_mem hk2)
          have hc2 := hb _ (List.getElem_mem hk2)
          have hdr : L.drop (k + 1) = L[k + 1] :: L.drop (k + 1 + 1) := List.drop_eq_getElem_cons hk2
          have hxm : ∃ x ∈ L, x.1 = (L[k + 1]).1 := ⟨_, List.getElem_mem hk2, rfl⟩
          have hct : ∀ x ∈ L.take k, x.1 ≠ (L[k + 1]).1 := fun x hx e => by
            obtain ⟨j, hj, rfl⟩ := List.getElem_of_mem hx
            rw [List.length_take] at hj
            rw [List.getElem_take] at e
            exact dist_blocks hq.nd (by omega) hk2 (by omega) e
          obtain ⟨y, hy⟩ : ∃ y, L[k + 1] = y := ⟨_, rfl⟩
          rw [hy] at t2 n0 n1 n2 nf hbn hpn hqn hc2 hdr hxm hct
          obtain ⟨b2, i2, c2⟩ := y
          dsimp only at t2 n0 n1 n2 nf hbn hpn hqn hc2 hct
          have he : IntKind.i64.wrap (c2 + c) = c2 + c := IntWalk.i64_in _ (by omega)
          have HDR := hid hdr
          have HCT := hid hct
          have HY := hid hy
          clear hnn hx hdr hct hy hxm
          go_wp2
          refine wp_region_stage 14 (Drawn fun _ => w) (by kernel_rfl) (by kernel_rfl) (Drawn.start _ _ rfl) ?_
          simp only [List.take_succ_cons, List.take_zero, List.drop_succ_cons, List.drop_zero]
          repeat (refine wpStg_quiet (by rfl) (by rfl) (fun K hK => ?_); go_simp; (refine hK _ ?_; clear hK K))
          refine wpStg_nil ?_
          rintro _ ⟨nq, rfl⟩
          have hqd := hq.drewN nq
          obtain ⟨Wd, hWd⟩ : ∃ Wd, Wd = w.drewN nq := ⟨_, rfl⟩
          have d1 : Wd.cell? ⟨b2, 1, none⟩ = some (.int .i64 c2) := by rw [hWd]; exact n1
          have d2 : Wd.cell? ⟨b, 2, none⟩ = some (.pointer (some ⟨b2, 0, none⟩)) := by rw [hWd]; exact t2
          have dp : Wd.cell? ⟨pb, po, none⟩ = some (.pointer (some ⟨b, 0, none⟩)) := by rw [hWd]; exact ca
          have dm : Wd.cell? ⟨qb, qo + 1, none⟩ = some (.int .i64 (n : Int)) := by rw [hWd]; exact cm
          have df1 : Wd.frozen? ⟨b2, 1, none⟩ = false := by rw [hWd]; exact nf 1
          have dfp : Wd.frozen? ⟨pb, po, none⟩ = false := by rw [hWd]; exact fa
          have dfm : Wd.frozen? ⟨qb, qo + 1, none⟩ = false := by rw [hWd]; exact fm
          rw [← hWd] at hqd ⊢
          have HWD := hid hWd
          clear hWd t0 t1 t2 n0 n1 n2 ca cm fa fm tf nf
          have g2 : (Wd.setCell ⟨b2, 1, none⟩ (.int .i64 (c2 + c))).cell? ⟨b, 2, none⟩ = some (.pointer (some ⟨b2, 0, none⟩)) := (cset_far (Ne.symm hbn)).trans d2
          have gp : (Wd.setCell ⟨b2, 1, none⟩ (.int .i64 (c2 + c))).cell? ⟨pb, po, none⟩ = some (.pointer (some ⟨b, 0, none⟩)) := (cset_far (Ne.symm hpn)).trans dp
          have gm : (Wd.setCell ⟨b2, 1, none⟩ (.int .i64 (c2 + c))).cell? ⟨qb, qo + 1, none⟩ = some (.int .i64 (n : Int)) := (cset_far hqn).trans dm
          have gm2 : ((Wd.setCell ⟨b2, 1, none⟩ (.int .i64 (c2 + c))).setCell ⟨pb, po, none⟩ (.pointer (some ⟨b2, 0, none⟩))).cell? ⟨qb, qo + 1, none⟩ = some (.int .i64 (n : Int)) := (cset_ne hne).trans gm
          have HB : Hid (bump (-c) (L.drop (k + 1)) = (b2, i2, c2 + c) :: L.drop (k + 1 + 1)) := by
            show _ = _
            rw [HDR.out]
            simp only [bump]
            rw [show c2 - -c = c2 + c by omega]
          have hnd2 := hqd.nd
          have hsp : L = L.take k ++ (b, i, c) :: (b2, i2, c2) :: L.drop (k + 1 + 1) := by
            have h1 := List.drop_eq_getElem_cons hkl
            rw [HX.out, HDR.out] at h1
            rw [← h1, List.take_append_drop]
          have HSP := hid hsp
          have hch : Ch (Wd.setCell ⟨b2, 1, none⟩ (.int .i64 (c2 + c))) ((b2, i2, c2 + c) :: L.drop (k + 1 + 1)) := by
            have h1 := hqd.ch.drop (k + 1)
            rw [HDR.out] at h1
            have h2 := ch_bump h1 (fun y hy e => by
              have h3 := hnd2
              rw [hsp, List.map_append] at h3
              have h4 := (List.nodup_append.1 h3).2.1
              have h5 := (List.nodup_cons.1 (List.nodup_cons.1 (by simpa using h4 : (b :: b2 :: (L.drop (k + 1 + 1)).map (·.1)).Nodup)).2).1
              exact h5 (List.mem_map.2 ⟨y, hy, e⟩)) (-c)
            simp only [bump] at h2
            rwa [show c2 - -c = c2 + c by omega] at h2
          have hblk : ((L.take k ++ (b2, i2, c2 + c) :: L.drop (k + 1 + 1)).map (·.1)).Nodup := by
            have h3 := hnd2
            rw [hsp] at h3
            have h4 : ((L.take k).map (·.1) ++ b :: b2 :: (L.drop (k + 1 + 1)).map (·.1)).Nodup := by simpa using h3
            have h5 := h4.sublist (List.Sublist.append_left (List.sublist_cons_self b (b2 :: (L.drop (k + 1 + 1)).map (·.1))) ((L.take k).map (·.1)))
            simpa using h5
          have hmem : ∀ x ∈ (b2, i2, c2 + c) :: L.drop (k + 1 + 1), ∃ y ∈ L, y.1 = x.1 := fun x hx => by
            rcases List.mem_cons.1 hx with rfl | hx
            · exact ⟨(b2, i2, c2), by rw [hsp]; simp, rfl⟩
            · exact ⟨x, List.mem_of_mem_drop hx, rfl⟩
          have hR := hqd.relink (Nat.le_of_lt hkl) HP.out ((b2, i2, c2 + c) :: L.drop (k + 1 + 1)) (Save.set Wd b2 1 (.int .i64 (c2 + c))) (fun e => hqn e.symm) (fun x hx e => HCT.out x hx e) hch hblk
            (fun x hx => by obtain ⟨y, hy, e⟩ := hmem x hx; rw [← e]; exact hqd.nq y hy) (fun x hx => by obtain ⟨y, hy, e⟩ := hmem x hx; rw [← e]; exact hqd.low.2 y hy) ((n : Int) - 1) (by have := HN.out; simp; omega)
          have HR := hid hR
          have HS0 := relink_save hqd HP.out (Save.set Wd b2 1 (.int .i64 (c2 + c))) (fun e => hqn e.symm) (fun d _ e => ⟨(b2, i2, c2), by rw [hsp]; simp, e.symm⟩) (.pointer (some ⟨b2, 0, none⟩)) (.int .i64 ((n : Int) - 1))
          rw [HWD.out] at HS0
          have HS := hid HS0.from_drewN
          rw [← HWD.out] at HS
          have HM : Hid (∀ x ∈ L.take k ++ (b2, i2, c2 + c) :: L.drop (k + 1 + 1), ∃ y ∈ L, y.1 = x.1) := fun x hx => by
            rcases List.mem_append.1 hx with h | h
            · exact ⟨x, List.mem_of_mem_take h, rfl⟩
            · exact hmem x h
          clear hsp hch hblk hmem hR HS0 hnd2 hne HCT HY HX HSP HWD hpn hqn hbn
          go_wp2
          go_ret
          exact ⟨L.take k ++ (b2, i2, c2 + c) :: L.drop (k + 1 + 1), by rw [HC.out]; rfl, HR.out, by rw [HC.out, HCL.out, HB.out], HM.out, HS.out⟩
        · have hke : k + 1 = n := by omega
          rw [nextp_end (by omega)] at t2
          have HKE := hid hke
          have cm2 : (w.setCell ⟨pb, po, none⟩ (.pointer none)).cell? ⟨qb, qo + 1, none⟩ = some (.int .i64 (n : Int)) := (cset_ne hne).trans cm
          have hR := hq.relink (Nat.le_of_lt hkl) HP.out [] (Save.refl (fun _ => False) w) id (fun _ _ => id) trivial (by rw [List.append_nil]; exact (hq.nd.sublist (List.Sublist.map _ (List.take_sublist k L)))) (fun x hx => by cases hx) (fun x hx => by cases hx) ((n : Int) - 1) (by simp; omega)
          have HR := hid hR
          have HS := hid (relink_save hq HP.out (Save.refl (fun _ => False) w) id (fun b _ h => h.elim) (.pointer none) (.int .i64 ((n : Int) - 1)))
          have HL : Hid (cutL k L = L.take k ++ []) := by
            show _ = _
            rw [HCL.out, List.drop_eq_nil_of_le (by omega)]; rfl
          have HM : Hid (∀ x ∈ L.take k ++ [], ∃ y ∈ L, y.1 = x.1) := fun x hx => ⟨x, List.mem_of_mem_take (by simpa using hx), rfl⟩
          clear hnn hx hke hR hne HCL
          go_wp2
          go_ret
          exact ⟨L.take k ++ [], by rw [HC.out]; rfl, HR.out, by rw [HC.out, HL.out], HM.out, HS.out⟩
      · have ti : (i != id) = true := by simpa using hi
        have HP2 := hid (PosAt.next (qb := qb) (qo := qo) hkl)
        rw [hx] at HP2
        have HNO2 : Hid (∀ j, j < k + 1 → ∀ h : j < L.length, (L[j]).2.1 ≠ id) := fun j hj h => by
          rcases (show j < k ∨ j = k by omega) with e | rfl
          · exact HNO.out j e h
          · rw [hx]; exact hi
        have HV := hid (posV_at hq HP.out)
        have HV2 := hid (posV_at hq HP2.out)
        clear hnn hx
        go_wp2
        go_round
        case rel => exact ⟨k + 1, b, 2, rfl, by omega, HP2, HNO2⟩
        case measure => rw [HV.out, HV2.out]; omega
    · obtain rfl : k = n := by omega
      rw [nextp_end (by omega)] at ca
      have HE := hid (cancelF_none (L := L) (id := id) fun j h => HNO.out j (by omega) h)
      clear hnn
      go_wp2
      go_ret
      exact ⟨L, by rw [HE.out]; rfl, hq, by rw [HE.out], fun x hx => ⟨x, hx, rfl⟩, Save.refl _ _, fun _ _ _ => rfl, fun _ => rfl⟩
end Go.Proofs.Ytdccpbnknfffaaa
