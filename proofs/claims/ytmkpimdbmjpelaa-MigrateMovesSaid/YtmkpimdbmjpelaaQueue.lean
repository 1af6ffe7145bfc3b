/-
  A queue in memory, and contracts of the package queue: New, Right, drop, Send.
-/
import Derived.Test.YtmkpimdbmjpelaaChain
import Derived.Test.YtmkpimdbmjpelaaRow
import Derived.Maps.AppendAt
import Derived.Laws.CopyOwn
import Derived.Laws.OwnMore
namespace Go.Proofs.Ytmkpimdbmjpelaa
open Go.RowKit
/-- All but some blocks lie as they lay. -/
structure Save (S : Nat → Prop) (w w' : World) : Prop where
  os : w'.os = w.os
  tape : w'.tape = w.tape
  output : w'.output = w.output
  size : w.heap.size ≤ w'.heap.size
  block : ∀ k, k < w.heap.size → ¬ S k → w'.heap[k]? = w.heap[k]?
theorem Save.refl (S : Nat → Prop) (w : World) : Save S w w := ⟨rfl, rfl, rfl, Nat.le_refl _, fun _ _ _ => rfl⟩
theorem Save.trans {S S' : Nat → Prop} {a b c : World} (h : Save S a b) (k : Save S' b c) (hs : ∀ i, i < a.heap.size → S' i → S i) : Save S a c :=
  ⟨k.os.trans h.os, k.tape.trans h.tape, k.output.trans h.output, Nat.le_trans h.size k.size, fun i hi hn => (k.block i (Nat.lt_of_lt_of_le hi h.size) fun hb => hn (hs i hi hb)).trans (h.block i hi hn)⟩
theorem Save.mono {S S' : Nat → Prop} {w w' : World} (h : Save S w w') (hs : ∀ k, S k → S' k) : Save S' w w' := ⟨h.os, h.tape, h.output, h.size, fun k hk hn => h.block k hk fun hS => hn (hs k hS)⟩
theorem Save.of_grown {w w' : World} {row : Option Nat} (h : w.grownBy w' row) : Save (fun k => row = some k) w w' := ⟨h.os, h.tape, h.output, h.size, fun k hk hn => h.block k hk fun e => hn e.symm⟩
theorem Save.alloc (w : World) (o : Obj) : Save (fun _ => False) w (w.alloc o) := ⟨rfl, rfl, rfl, by simp, fun k hk _ => Below.heap_alloc w o k hk⟩
theorem Save.set (w : World) (b i : Nat) (v : Value) : Save (fun k => k = b) w (w.setCell ⟨b, i, none⟩ v) := ⟨rfl, rfl, rfl, by simp [World.setCell], fun k _ hn => Below.heap_setCell _ _ _ _ hn⟩
theorem Save.drewN (S : Nat → Prop) {w w' : World} {n : Nat} (h : Save S w w') : Save S w (w'.drewN n) := ⟨h.os, h.tape, h.output, h.size, h.block⟩
theorem Save.from_drewN {S : Nat → Prop} {w w' : World} {n : Nat} (h : Save S (w.drewN n) w') : Save S w w' := ⟨h.os, h.tape, h.output, h.size, h.block⟩
theorem Save.of_below {w w' : World} (h : Below w.heap.size w w') (S : Nat → Prop) : Save S w w' := ⟨h.os, h.tape, h.output, h.size, fun k hk _ => h.block k hk⟩
theorem Save.below {S : Nat → Prop} {B : Nat} {w0 w w' : World} (h : Save S w w') (hb : Below B w0 w) (hB : B ≤ w.heap.size) (hs : ∀ k, S k → B ≤ k) : Below B w0 w' :=
  hb.trans ⟨h.os, h.tape, h.output, h.size, fun k hk => h.block k (by omega) fun hn => by have := hs k hn; omega⟩
def vi (xs : List Int) : List Value := xs.map (Value.int .i64 ·)
theorem vi_length (xs : List Int) : (vi xs).length = xs.length := List.length_map ..
theorem vi_one (xs : List Int) : ∀ v ∈ vi xs, v.oneCell' = true := fun v hv => by obtain ⟨x, _, rfl⟩ := List.mem_map.1 hv; rfl
theorem vi_append (xs ys : List Int) : vi (xs ++ ys) = vi xs ++ vi ys := List.map_append ..
/-- A queue lies in block p, its messages in a row of their own. -/
structure QAt (W : World) (base p : Nat) (cap pol : Int) (v : Value) (xs : List Int) (d : Int) : Prop where
  blk : W.heap[p]? = some (.cells #[.int .i64 cap, .int .i64 pol, v, .int .i64 d] 75 (0, 0))
  row : W.ownsRow base 3 1 v xs.length (vi xs)
  low : base ≤ p
section
variable {W W' : World} {base p : Nat} {cap pol d : Int} {v : Value} {xs : List Int}
theorem QAt.lt (h : QAt W base p cap pol v xs d) : p < W.heap.size := (Array.getElem?_eq_some_iff.1 h.blk).1
theorem blk_cell {W : World} {b : Nat} {a : Array Value} {t : TypeId} (h : W.heap[b]? = some (.cells a t (0, 0))) (i : Nat) : W.cell? ⟨b, i, none⟩ = a[i]? := by simp [World.cell?, h]
theorem blk_frozen {W : World} {b : Nat} {a : Array Value} {t : TypeId} (h : W.heap[b]? = some (.cells a t (0, 0))) (i : Nat) : W.frozen? ⟨b, i, none⟩ = false := by simp [World.frozen?, h]
theorem QAt.c0 (h : QAt W base p cap pol v xs d) : W.cell? ⟨p, 0, none⟩ = some (.int .i64 cap) := blk_cell h.blk 0
theorem QAt.c1 (h : QAt W base p cap pol v xs d) : W.cell? ⟨p, 1, none⟩ = some (.int .i64 pol) := blk_cell h.blk 1
theorem QAt.c2 (h : QAt W base p cap pol v xs d) : W.cell? ⟨p, 2, none⟩ = some v := blk_cell h.blk 2
theorem QAt.c3 (h : QAt W base p cap pol v xs d) : W.cell? ⟨p, 3, none⟩ = some (.int .i64 d) := blk_cell h.blk 3
theorem blk_not_row {a : Array Value} (h : W.heap[p]? = some (.cells a 75 (0, 0))) {b n : Nat} {u : Value} {ys : List Value} (hr : W.ownsRow b 3 1 u n ys) : u.ownBlock ≠ some p := fun e => by
  rcases hr.2 with ⟨rfl, _⟩ | ⟨g, cap', cur, rfl, _, hgb, _⟩
  · cases e
  · have e1 : g = p := by simpa [Value.ownBlock] using e
    rw [e1, h] at hgb
    simp at hgb
theorem QAt.not_row (h : QAt W base p cap pol v xs d) {b n : Nat} {u : Value} {ys : List Value} (hr : W.ownsRow b 3 1 u n ys) : u.ownBlock ≠ some p := blk_not_row h.blk hr
theorem own_save {S : Nat → Prop} {b n : Nat} {e : TypeId} {u : Value} {ys : List Value} (h : W.ownsRow b e 1 u n ys) (hs : Save S W W') (hn : ∀ g, u.ownBlock = some g → ¬ S g) : W'.ownsRow b e 1 u n ys := by
  obtain ⟨h1, h2 | ⟨g, cap, cur, rfl, hb, hg, hr⟩⟩ := h
  · exact ⟨h1, .inl h2⟩
  · exact ⟨h1, .inr ⟨g, cap, cur, rfl, hb, (hs.block g (Array.getElem?_eq_some_iff.1 hg).1 (hn g rfl)).trans hg, hr⟩⟩
theorem QAt.save {S : Nat → Prop} (h : QAt W base p cap pol v xs d) (hs : Save S W W') (hp : ¬ S p) (hn : ∀ g, v.ownBlock = some g → ¬ S g) : QAt W' base p cap pol v xs d :=
  ⟨(hs.block p h.lt hp).trans h.blk, own_save h.row hs hn, h.low⟩
theorem QAt.drewN (h : QAt W base p cap pol v xs d) (n : Nat) : QAt (W.drewN n) base p cap pol v xs d := ⟨h.blk, h.row, h.low⟩
theorem QAt.below (h : QAt W base p cap pol v xs d) (hb : Below W.heap.size W W') : QAt W' base p cap pol v xs d := h.save (Save.of_below hb fun _ => False) id fun _ _ => id
/-- The messages' slice is another one. -/
theorem qset {v' : Value} {xs' : List Int} (hb : W.heap[p]? = some (.cells #[.int .i64 cap, .int .i64 pol, v, .int .i64 d] 75 (0, 0))) (hr : W.ownsRow base 3 1 v' xs'.length (vi xs')) (hl : base ≤ p) : QAt (W.setCell ⟨p, 2, none⟩ v') base p cap pol v' xs' d :=
  ⟨heap_setCell_same W p 2 _ _ v' hb, own_save hr (Save.set W p 2 v') fun _ hg e => blk_not_row hb hr (hg.trans (congrArg some e)), hl⟩
theorem QAt.setD {d' : Int} (h : QAt W base p cap pol v xs d) : QAt (W.setCell ⟨p, 3, none⟩ (.int .i64 d')) base p cap pol v xs d' :=
  ⟨heap_setCell_same W p 3 _ _ _ h.blk, own_save h.row (Save.set W p 3 _) fun _ hg e => h.not_row h.row (hg.trans (congrArg some e)), h.low⟩
/-- Its block, whatever lies in its cells. -/
theorem blk_save {S : Nat → Prop} {b : Nat} {o : Obj} (h : W.heap[b]? = some o) (hs : Save S W W') (hn : ¬ S b) : W'.heap[b]? = some o := (hs.block b (Array.getElem?_eq_some_iff.1 h).1 hn).trans h
end
theorem vi_view {w : World} {base : Nat} {v : Value} {xs : List Int} (h : w.ownsRow base 3 1 v xs.length (vi xs)) : ∃ ao c, v = .slice ao xs.length c ∧ xs.length ≤ c ∧ c ≤ maxLen ∧ Row w ao xs.length (fun i => .int .i64 (xs.getD i 0)) ∧ (0 < xs.length → ∃ g, ao = some ⟨g, 0, none⟩ ∧ v.ownBlock = some g) := by
  have key : ∀ ao c, v = .slice ao xs.length c → Row w ao xs.length (fun i => .int .i64 (xs.getD i 0)) := fun ao c e => by
    subst e
    exact (row_of_own h).congr fun i hi => by simp [vi, List.getD, List.getElem?_eq_getElem hi]
  rcases h.2 with ⟨e, h2⟩ | ⟨g, cap, cur, e, _, _, hnc, hcm, _⟩
  · rw [h2] at key ⊢; exact ⟨none, 0, e, Nat.le_refl _, Nat.zero_le _, key _ _ e, fun h => by omega⟩
  · exact ⟨_, cap, e, hnc, hcm, key _ _ e, fun _ => ⟨g, rfl, by rw [e]; rfl⟩⟩
theorem infoInt : (Try.prog.info? 3).map (fun i => (i.zero, i.size, i.bytes)) = some (some (.int .i64 0), 1, 8) := by kernel_rfl
/-! ### Right, New -/
def rightB (cap pol : Int) : Bool := decide (1 ≤ cap) && decide (cap ≤ 16) && decide (1 ≤ pol) && decide (pol ≤ 3)
set_option maxHeartbeats 1000000 in
theorem qright_any (cap pol : Int) (w : World) : Calls Try.prog 40 #[.agg #[.int .i64 cap, .int .i64 pol]] w fun e w' => e = .returned (.bool (rightB cap pol)) ∧ Below w.heap.size w w' := by
  have hb := (Below.refl w.heap.size w).alloc (Nat.le_refl _) (Obj.cells #[.int .i64 cap, .int .i64 pol] 43)
  unfold rightB
  cases h1 : decide (1 ≤ cap) <;> cases h2 : decide (cap ≤ 16) <;> cases h3 : decide (1 ≤ pol) <;> cases h4 : decide (pol ≤ 3)
  all_goals
    go_enter Try.func40, Try.ntmps40
    go_wp2
    go_ret
    exact ⟨rfl, hb⟩
set_option maxHeartbeats 1000000 in
theorem new_bad (cap pol : Int) (w : World) (h : rightB cap pol = false) : Calls Try.prog 32 #[.agg #[.int .i64 cap, .int .i64 pol]] w fun e w' => e = .returned (.tuple #[.pointer none, .int .i64 104]) ∧ Below w.heap.size w w' := by
  have hb := (Below.refl w.heap.size w).alloc (Nat.le_refl _) (Obj.cells #[.int .i64 cap, .int .i64 pol] 43)
  have HR := qright_any cap pol (w.alloc (Obj.cells #[.int .i64 cap, .int .i64 pol] 43))
  rw [h] at HR
  go_enter Try.func32, Try.ntmps32
  go_wp2_with fail
  refine HR.mono ?_
  rintro e w1 ⟨rfl, hb1⟩
  go_wp2
  go_ret2
  exact ⟨rfl, hb.trans (hb1.mono hb.size)⟩
def NewPost (cap pol : Int) (w : World) (e : Ending) (w' : World) : Prop := ∃ p, e = .returned (.tuple #[.pointer (some ⟨p, 0, none⟩), .int .i64 0]) ∧ QAt w' w.heap.size p cap pol (.slice none 0 0) [] 0 ∧ Below w.heap.size w w'
set_option maxHeartbeats 1000000 in
theorem new_good (cap pol : Int) (w : World) (h : rightB cap pol = true) : Calls Try.prog 32 #[.agg #[.int .i64 cap, .int .i64 pol]] w fun e w' => NewPost cap pol w e w' := by
  have hb := (Below.refl w.heap.size w).alloc (Nat.le_refl _) (Obj.cells #[.int .i64 cap, .int .i64 pol] 43)
  have HR := qright_any cap pol (w.alloc (Obj.cells #[.int .i64 cap, .int .i64 pol] 43))
  rw [h] at HR
  have c0 : (w.alloc (Obj.cells #[.int .i64 cap, .int .i64 pol] 43)).heap[w.heap.size]? = some (Obj.cells #[.int .i64 cap, .int .i64 pol] 43) := heap_alloc_new w _
  go_enter Try.func32, Try.ntmps32
  go_wp2_with fail
  refine HR.mono ?_
  rintro e w1 ⟨rfl, hb1⟩
  have b1 := hb.trans (hb1.mono hb.size)
  have d0 := blk_save c0 (Save.of_below hb1 fun _ => False) id
  have e0 : w1.cell? ⟨w.heap.size, 0, none⟩ = some (.int .i64 cap) := blk_cell d0 0
  have e1 : w1.cell? ⟨w.heap.size, 1, none⟩ = some (.int .i64 pol) := blk_cell d0 1
  clear c0 d0
  go_wp2
  go_ret2
  exact ⟨w1.heap.size, rfl, ⟨heap_alloc_new w1 _, World.ownsRow_nil _ _ _ _, b1.size⟩, b1.alloc b1.size _⟩
/-! ### drop, Send -/
set_option maxHeartbeats 1000000 in
theorem qdrop_any (base p : Nat) (cap pol : Int) (v : Value) (xs : List Int) (d n : Int) (w : World) (hq : QAt w base p cap pol v xs d) (hd : 0 ≤ d ∧ d ≤ 4096) (hn : 0 ≤ n ∧ n ≤ 4096) :
    Calls Try.prog 41 #[.pointer (some ⟨p, 0, none⟩), .int .i64 n] w fun e w' => (∃ r, e = .returned r) ∧ QAt w' base p cap pol v xs (min (d + n) 4096) ∧ Save (fun k => k = p) w w' := by
  have c3 := hq.c3
  have f3 := blk_frozen hq.blk 3
  go_enter Try.func41, Try.ntmps41
  rcases Int.lt_or_le 4096 (d + n) with h | h
  · go_wp2
    go_end0
    exact ⟨⟨_, rfl⟩, by rw [show min (d + n) 4096 = 4096 by omega]; exact hq.setD, Save.set _ _ _ _⟩
  · go_wp2
    go_end0
    exact ⟨⟨_, rfl⟩, by rw [show min (d + n) 4096 = d + n by omega]; exact hq.setD, Save.set _ _ _ _⟩
/-- What Send does: the messages behind it, how many were dropped, its error. -/
def sendF (cap pol : Int) (xs : List Int) (d n : Int) : List Int × Int × Int :=
  if (xs.length : Int) < cap then (xs ++ [n], d, 0) else if pol = 2 then (xs.drop 1 ++ [n], min (d + 1) 4096, 0) else if pol = 3 then (xs, min (d + 1) 4096, 0) else (xs, d, 271)
/-- One's own row is the queue's still, or a new one. -/
def Heir (w : World) (v v' : Value) : Prop := ∀ g, v'.ownBlock = some g → v.ownBlock = some g ∨ w.heap.size ≤ g
def SendPost (base p : Nat) (cap pol : Int) (v : Value) (r : List Int × Int × Int) (w : World) (e : Ending) (w' : World) : Prop :=
  e = .returned (.int .i64 r.2.2) ∧ ∃ v', QAt w' base p cap pol v' r.1 r.2.1 ∧ Heir w v v' ∧ Save (fun k => k = p ∨ v.ownBlock = some k) w w'
theorem heir_refl (w : World) (v : Value) : Heir w v v := fun _ h => .inl h
/-- A row into which others are copied from its beginning on. -/
theorem own_copied {W : World} {base g n c : Nat} {xs : List Value} (h : W.ownsRow base 3 1 (.slice (some ⟨g, 0, none⟩) n c) n xs) : ∃ cur : Array Value, W.heap[g]? = some (.cells cur 3 (0, 0)) ∧ n ≤ cur.size ∧
    ∀ cs : List Value, cs.length ≤ n → ∀ W' : World, W'.heap[g]? = some (.cells cur 3 (0, 0)) → (W'.setRow g (cur.toList.take 0 ++ (cs ++ cur.toList.drop (0 + cs.length))).toArray).ownsRow base 3 1 (.slice (some ⟨g, 0, none⟩) n c) n (cs ++ xs.drop cs.length) := by
  obtain ⟨h1, ⟨h2, _⟩ | ⟨g', cap, cur, e, hb, hg, hnc, hcm, hcs, htake⟩⟩ := h
  · cases h2
  · simp only [Value.slice.injEq, Option.some.injEq, Addr.mk.injEq, and_true, true_and] at e
    obtain ⟨rfl, rfl⟩ := e
    refine ⟨cur, hg, by omega, fun cs hl W' hW' => ⟨by simp; omega, .inr ⟨g, c, _, rfl, hb, setRow_heap W' g cur _ _ _ hW', hnc, hcm, by simp; omega, ?_⟩⟩⟩
    have hx : xs = cur.toList.take n := by rw [← htake, Nat.mul_one]
    simp only [List.take_zero, List.nil_append, Nat.zero_add, Nat.mul_one]
    rw [hx, List.take_append, List.take_of_length_le hl, List.drop_take]
theorem Save.setRow (w : World) (g : Nat) (cs : Array Value) : Save (fun k => k = g) w (w.setRow g cs) := ⟨rfl, rfl, rfl, by simp [World.setRow], fun k _ hn => setRow_other w g k cs hn⟩
theorem vi_shift {xs : List Int} (h : 1 ≤ xs.length) (n : Int) : (vi (xs.drop 1) ++ (vi xs).drop (vi (xs.drop 1)).length).set (xs.length - 1) (.int .i64 n) = vi (xs.drop 1 ++ [n]) := by
  have h1 : (vi (xs.drop 1)).length = xs.length - 1 := by rw [vi_length]; simp
  rw [List.set_append_right _ _ (by omega), h1, Nat.sub_self, vi_append]
  congr 1
  have h2 : ((vi xs).drop (xs.length - 1)).length = 1 := by rw [List.length_drop, vi_length]; omega
  match (vi xs).drop (xs.length - 1), h2 with
  | [_], _ => rfl
section
attribute [local go_sem] Oper.quietS Oper.effS effUpon Drawn stillAt
end
end Go.Proofs.Ytmkpimdbmjpelaa
