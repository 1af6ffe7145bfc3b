/-
  The walk of PatchGreat, and the example of layer 55.
-/
import Derived.Test.YtgelgpcpllmnkaaPatch
import Derived.ProofKit
namespace Go.Proofs.Ytgelgpcpllmnkaa
open Go.RowKit
theorem make_big (ao bo : Option Addr) (la lb ca cb : Nat) (h : 4096 < la ∧ la ≤ 5000 ∨ la ≤ 4096 ∧ 4096 < lb ∧ lb ≤ 5000) (w : World) :
    Calls Try.prog 44 #[.slice ao la ca, .slice bo lb cb] w fun e w' => e = .returned (.tuple #[.slice none 0 0, .int .i64 64]) ∧ w = w' := by
  rcases h with ⟨h1, h2⟩ | ⟨h0, h1, h2⟩
  · have d1 : decide (4096 < (la : Int)) = true := by simp; omega
    go_enter Try.func44, Try.ntmps44
    go_wp2
    go_ret2
    exact ⟨rfl, rfl⟩
  · have d0 : decide (4096 < (la : Int)) = false := by simp; omega
    have d1 : decide (4096 < (lb : Int)) = true := by simp; omega
    go_enter Try.func44, Try.ntmps44
    go_wp2
    go_ret2
    exact ⟨rfl, rfl⟩
theorem infoU : (Try.prog.info? 72).map (fun i => (i.zero, i.size, i.bytes)) = some (some (.int .u32 0), 1, 4) := by kernel_rfl
theorem infoO : (Try.prog.info? 88).map (fun i => (i.zero, i.size, i.bytes)) = some (some (.agg #[.int .i64 0, .int .i64 0, .slice none 0 0]), 3, 40) := by kernel_rfl
theorem below_grown0 {w w' : World} (h : Below w.heap.size w w') : w.grownBy w' none := ⟨h.os, h.tape, h.output, h.size, fun k hk _ => h.block k hk⟩
theorem block_any (v : Value) : v.ownBlock = none ∨ v.ownBlock ≠ none := by cases v.ownBlock <;> simp
theorem row_below {w w' : World} {base : Nat} {e : TypeId} {size : Nat} {v : Value} {n : Nat} {xs : List Value} (h : w.ownsRow base e size v n xs) (hb : Below w.heap.size w w') : w'.ownsRow base e size v n xs := h.kept (below_grown0 hb) (block_any _)
theorem own_mono {w : World} {base base' : Nat} {e : TypeId} {size : Nat} {v : Value} {n : Nat} {xs : List Value} (h : w.ownsRow base e size v n xs) (hb : base' ≤ base) : w.ownsRow base' e size v n xs :=
  ⟨h.1, h.2.elim .inl fun ⟨g, cap, cur, h1, h2, h3⟩ => .inr ⟨g, cap, cur, h1, Nat.le_trans hb h2, h3⟩⟩
/-- No new words: nothing more. -/
theorem flush_none (v : Value) (l : Option Addr) (n cap : Nat) (hv : v = .slice l n cap) (w : World) : Calls Try.prog 58 #[v, .slice none 0 0] w fun e w' => e = .returned v ∧ w = w' := by
  subst hv
  go_enter Try.func58, Try.ntmps58
  go_wp2
  go_ret
  exact ⟨rfl, rfl⟩
def FlushPost (f : Value) (w : World) (e : Ending) (w' : World) : Prop := ∃ v, e = .returned v ∧ w'.ownsRow w.heap.size 88 3 v 1 [.int .i64 0, .int .i64 0, f] ∧ Below w.heap.size w w'
/-- The first piece: one of new words. -/
theorem flush_first (p : Addr) (m c : Nat) (hm : 0 < m) (hm2 : m ≤ 5000) (w : World) : Calls Try.prog 58 #[.slice none 0 0, .slice (some p) m c] w fun e w' => FlushPost (.slice (some p) m c) w e w' := by
  obtain ⟨i0, hi, hz0, hz1, hz2⟩ := info_parts infoO
  have hd : ((m : Int) == 0) = false := by simp; omega
  have r0 := (World.ownsRow_nil w w.heap.size 88 3).alloc (Obj.cells #[.int .i64 0, .int .i64 0, .slice (some p) m c] 88)
  have hbw := (Below.refl w.heap.size w).alloc (Nat.le_refl _) (Obj.cells #[.int .i64 0, .int .i64 0, .slice (some p) m c] 88)
  have hnews : ∀ (j : Nat) (u : Value), [Value.int .i64 0, .int .i64 0, .slice (some p) m c][j]? = some u → (w.alloc (Obj.cells #[.int .i64 0, .int .i64 0, .slice (some p) m c] 88)).cell? ((⟨w.heap.size, 0, none⟩ : Addr).add j) = some u := fun j u hj => by
    rw [add_off, Nat.zero_add, World.cell?_alloc_at _ _ _ _ rfl]; simpa using hj
  have hsz := hid hbw.size
  go_enter Try.func58, Try.ntmps58
  go_wp2_with (at_builtin; refine wpList_append_own _ rfl _ _ 81 rfl w.heap.size 88 i0 (.agg #[.int .i64 0, .int .i64 0, .slice none 0 0]) 3 40 Try.underlying81 hi hz0 hz1 hz2 rfl (by decide) _ _ _ rfl r0 ⟨w.heap.size, 0, none⟩ 1 1 _ rfl (by simp) hnews (by simp [Value.oneCell']) (by unfold maxLen; omega) (by omega) hsz.out ?_; intro v' w2 hown2 hgrow _)
  go_ret
  exact ⟨_, rfl, hown2, hbw.grown hgrow hsz.out fun j hj => (r0.lt j hj).1⟩
theorem cellsO {w : World} {base : Nat} {v : Value} {f : Addr} {c : Nat} (h : w.ownsRow base 88 3 v 2 [.int .i64 0, .int .i64 0, .slice (some f) 1 c, .int .i64 0, .int .i64 4, .slice none 0 0]) : ∃ g cap, v = .slice (some ⟨g, 0, none⟩) 2 cap ∧ g < w.heap.size ∧
    (w.cell? ⟨g, 0, none⟩ = some (.int .i64 0) ∧ w.cell? ⟨g, 1, none⟩ = some (.int .i64 0) ∧ w.cell? ⟨g, 2, none⟩ = some (.slice (some f) 1 c)) ∧ (w.cell? ⟨g, 3, none⟩ = some (.int .i64 0) ∧ w.cell? ⟨g, 4, none⟩ = some (.int .i64 4) ∧ w.cell? ⟨g, 5, none⟩ = some (.slice none 0 0)) := by
  rcases h.2 with ⟨_, h2⟩ | ⟨g, cap, cur, rfl, hb, hh, hc, hm, _⟩
  · omega
  · exact ⟨g, cap, rfl, (h.lt g rfl).2, ⟨h.cellAt 0 (by omega), h.cellAt 1 (by omega), h.cellAt 2 (by omega)⟩, h.cellAt 3 (by omega), h.cellAt 4 (by omega), h.cellAt 5 (by omega)⟩
def oldF (j : Nat) : Int := [1, 2, 3, 4, 5].getD j 0
def newF (j : Nat) : Int := [9, 1, 2, 3, 4].getD j 0
theorem long0 : longF oldF newF 5 5 0 5 = (0, 0) := by decide
theorem long1 : longF oldF newF 5 5 1 5 = (0, 4) := by decide
/-- What the example answers: two pieces. -/
def MakePost (w : World) (e : Ending) (w' : World) : Prop := ∃ v f c, e = .returned (.tuple #[v, .int .i64 0]) ∧ w'.ownsRow w.heap.size 88 3 v 2 [.int .i64 0, .int .i64 0, .slice (some f) 1 c, .int .i64 0, .int .i64 4, .slice none 0 0] ∧ Below w.heap.size w w'
set_option maxRecDepth 100000 in
set_option maxHeartbeats 2000000 in
theorem make_ex (p q : Nat) (w : World) (ha : Row w (some ⟨p, 0, none⟩) 5 (fun j => .int .u32 (oldF j))) (hb : Row w (some ⟨q, 0, none⟩) 5 (fun j => .int .u32 (newF j))) :
    Calls Try.prog 44 #[.slice (some ⟨p, 0, none⟩) 5 5, .slice (some ⟨q, 0, none⟩) 5 5] w fun e w' => MakePost w e w' := by
  obtain ⟨i0, hi, hz0, hz1, hz2⟩ := info_parts infoU
  obtain ⟨o0, ho, hy0, hy1, hy2⟩ := info_parts infoO
  have HL0 : Hid (∀ W, Below w.heap.size w W → Calls Try.prog 57 #[.slice (some ⟨p, 0, none⟩) 5 5, .slice (some ⟨q, 0, none⟩) 5 5, .int .i64 0] W fun e w' => e = .returned (rvN (0, 0)) ∧ Below W.heap.size W w') := fun W hW => by
    have := longest_any _ _ 5 5 5 5 oldF newF 0 W (ha.below hW) (hb.below hW) (by omega) (by omega) (by omega)
    rw [long0] at this
    exact this
  have HL1 : Hid (∀ W, Below w.heap.size w W → Calls Try.prog 57 #[.slice (some ⟨p, 0, none⟩) 5 5, .slice (some ⟨q, 0, none⟩) 5 5, .int .i64 1] W fun e w' => e = .returned (rvN (0, 4)) ∧ Below W.heap.size W w') := fun W hW => by
    have := longest_any _ _ 5 5 5 5 oldF newF 1 W (ha.below hW) (hb.below hW) (by omega) (by omega) (by omega)
    rw [long1] at this
    exact this
  have q0 : w.cell? ⟨q, 0, none⟩ = some (.int .u32 9) := hb.cellAt (i := 0) (by omega)
  clear ha hb
  go_enter Try.func44, Try.ntmps44
  go_wp2
  go_loopw [6, 7, 8, 9, 10] (fun out fr at_ _ _ wr => ∃ at' : Nat, at_ = .int .i64 at' ∧ Below w.heap.size w wr ∧ (at' = 0 ∧ out = .slice none 0 0 ∧ fr = .slice none 0 0 ∨ at' = 1 ∧ out = .slice none 0 0 ∧ wr.ownsRow w.heap.size 72 1 fr 1 [.int .u32 9] ∨ at' = 5 ∧ fr = .slice none 0 0 ∧ ∃ f c, wr.ownsRow w.heap.size 88 3 out 2 [.int .i64 0, .int .i64 0, .slice (some f) 1 c, .int .i64 0, .int .i64 4, .slice none 0 0])) (fun _ _ at_ _ _ _ => 5 - (intOf at_).toNat)
  case atStart => exact ⟨0, rfl, Below.refl _ _, .inl ⟨rfl, rfl, rfl⟩⟩
  case round =>
    obtain ⟨at', rfl, hbr, ⟨rfl, rfl, rfl⟩ | ⟨rfl, rfl, hown⟩ | ⟨rfl, rfl, f, c, hown⟩⟩ := hrel
    · rw [show ((0 : Nat) : Int) = 0 from rfl]
      have HC := hid (HL0.out wr hbr)
      clear HL0 HL1
      go_wp2_with (first | (go_at_call 57; refine HC.out.mono ?_; rintro e w1 ⟨rfl, hb1⟩; have hbw := hbr.trans (hb1.mono hbr.size); have c0 := (hbw.cell (cell_lt q0)).trans q0; have r0 := (World.ownsRow_nil w1 w.heap.size 72 1).alloc (Obj.cells #[.int .u32 9] 72); have hbx := hbw.alloc hbw.size (Obj.cells #[.int .u32 9] 72); have hnews : ∀ (j : Nat) (u : Value), [Value.int .u32 9][j]? = some u → (w1.alloc (Obj.cells #[.int .u32 9] 72)).cell? ((⟨w1.heap.size, 0, none⟩ : Addr).add j) = some u := (fun j u hj => by rw [add_off, Nat.zero_add, World.cell?_alloc_at _ _ _ _ rfl]; simpa using hj); have hsz := hid hbx.size) | (at_builtin; refine wpList_append_own _ rfl _ _ 71 rfl w.heap.size 72 i0 (.int .u32 0) 1 4 Try.underlying71 hi hz0 hz1 hz2 rfl (by decide) _ _ _ rfl r0 ⟨w1.heap.size, 0, none⟩ 1 1 _ rfl (by simp) hnews (by simp [Value.oneCell']) (by unfold maxLen; omega) (by omega) hsz.out ?_; intro v' w2 hown2 hgrow _))
      go_roundw
      case rel => exact ⟨1, by go_num, hbx.grown hgrow hsz.out fun j hj => (r0.lt j hj).1, .inr (.inl ⟨rfl, rfl, hown2⟩)⟩
      case measure => simp [intOf]
    · rw [show ((1 : Nat) : Int) = 1 from rfl]
      obtain ⟨g, cg, rfl, hg1, hg2, _, _, _⟩ := own_form hown (by omega)
      have HC := hid (HL1.out wr hbr)
      clear HL0 HL1 q0
      go_wp2_with fail
      refine HC.out.mono ?_
      rintro e w1 ⟨rfl, hb1⟩
      have hbw := hbr.trans (hb1.mono hbr.size)
      go_wp2_with fail
      refine (flush_first ⟨g, 0, none⟩ 1 cg (by omega) (by omega) w1).mono ?_
      rintro e w2 ⟨v, rfl, hown2, hb2⟩
      have hbx := hbw.trans (hb2.mono hbw.size)
      have r1 := (own_mono hown2 hbw.size).alloc (Obj.cells #[.int .i64 0, .int .i64 4, .slice none 0 0] 88)
      have hby := hbx.alloc hbx.size (Obj.cells #[.int .i64 0, .int .i64 4, .slice none 0 0] 88)
      have hnews : ∀ (j : Nat) (u : Value), [Value.int .i64 0, .int .i64 4, .slice none 0 0][j]? = some u → (w2.alloc (Obj.cells #[.int .i64 0, .int .i64 4, .slice none 0 0] 88)).cell? ((⟨w2.heap.size, 0, none⟩ : Addr).add j) = some u := fun j u hj => by
        rw [add_off, Nat.zero_add, World.cell?_alloc_at _ _ _ _ rfl]; simpa using hj
      have hsz := hid hby.size
      go_wp2_with (at_builtin; refine wpList_append_own _ rfl _ _ 81 rfl w.heap.size 88 o0 (.agg #[.int .i64 0, .int .i64 0, .slice none 0 0]) 3 40 Try.underlying81 ho hy0 hy1 hy2 rfl (by decide) _ _ _ rfl r1 ⟨w2.heap.size, 0, none⟩ 1 1 _ rfl (by simp) hnews (by simp [Value.oneCell']) (by unfold maxLen; omega) (by omega) hsz.out ?_; intro v' w3 hown3 hgrow _)
      go_roundw
      case rel => exact ⟨5, by go_num, hby.grown hgrow hsz.out fun j hj => (r1.lt j hj).1, .inr (.inr ⟨rfl, rfl, _, _, hown3⟩)⟩
      case measure => simp [intOf]
    · rw [show ((5 : Nat) : Int) = 5 from rfl]
      obtain ⟨g, cap, rfl, _, _⟩ := cellsO hown
      go_wp2_with fail
      refine (flush_none _ (some ⟨g, 0, none⟩) 2 cap rfl _).mono ?_
      rintro e w1 ⟨rfl, rfl⟩
      go_wp2_with fail
      go_ret2
      exact ⟨_, f, c, rfl, hown, hbr⟩
set_option maxRecDepth 100000 in
set_option maxHeartbeats 2000000 in
theorem size_ex (g cap : Nat) (f : Addr) (c : Nat) (w : World)
    (h : (w.cell? ⟨g, 0, none⟩ = some (.int .i64 0) ∧ w.cell? ⟨g, 1, none⟩ = some (.int .i64 0) ∧ w.cell? ⟨g, 2, none⟩ = some (.slice (some f) 1 c)) ∧ (w.cell? ⟨g, 3, none⟩ = some (.int .i64 0) ∧ w.cell? ⟨g, 4, none⟩ = some (.int .i64 4) ∧ w.cell? ⟨g, 5, none⟩ = some (.slice none 0 0))) :
    Calls Try.prog 49 #[.slice (some ⟨g, 0, none⟩) 2 cap] w fun e w' => e = .returned (.int .i64 4) ∧ Below w.heap.size w w' := by
  obtain ⟨⟨c0, c1, c2⟩, c3, c4, c5⟩ := h
  go_enter Try.func49, Try.ntmps49
  go_wp2
  go_loopw [3, 5, 8] (fun n _ i wr => ∃ k : Nat, i = .int .i64 k ∧ Below w.heap.size w wr ∧ (k = 0 ∧ n = .int .i64 0 ∨ k = 1 ∧ n = .int .i64 2 ∨ k = 2 ∧ n = .int .i64 4)) (fun _ _ i _ => 2 - (intOf i).toNat)
  case atStart => exact ⟨0, rfl, Below.refl _ _, .inl ⟨rfl, rfl⟩⟩
  case round =>
    obtain ⟨k, rfl, hbr, ⟨rfl, rfl⟩ | ⟨rfl, rfl⟩ | ⟨rfl, rfl⟩⟩ := hrel
    · rw [show ((0 : Nat) : Int) = 0 from rfl]
      have d0 := (hbr.cell (cell_lt c0)).trans c0
      have d1 := (hbr.cell (cell_lt c1)).trans c1
      have d2 := (hbr.cell (cell_lt c2)).trans c2
      go_wp2
      go_roundw
      case rel => exact ⟨1, by go_num, hbr.alloc hbr.size _, .inr (.inl ⟨rfl, rfl⟩)⟩
      case measure => simp [intOf]
    · rw [show ((1 : Nat) : Int) = 1 from rfl]
      have d3 := (hbr.cell (cell_lt c3)).trans c3
      have d4 := (hbr.cell (cell_lt c4)).trans c4
      have d5 := (hbr.cell (cell_lt c5)).trans c5
      go_wp2
      go_roundw
      case rel => exact ⟨2, by go_num, hbr.alloc hbr.size _, .inr (.inr ⟨rfl, rfl⟩)⟩
      case measure => simp [intOf]
    · rw [show ((2 : Nat) : Int) = 2 from rfl]
      go_wp2
      go_ret
      exact ⟨rfl, hbr⟩
theorem rowL {W : World} {p : Nat} {x0 x1 x2 x3 x4 : Int} (h : ∀ j, j < 5 → W.cell? ⟨p, j, none⟩ = #[Value.int .u32 x0, .int .u32 x1, .int .u32 x2, .int .u32 x3, .int .u32 x4][j]?) : Row W (some ⟨p, 0, none⟩) 5 (fun j => .int .u32 ([x0, x1, x2, x3, x4].getD j 0)) := fun i hi => by
  refine ⟨p, 0, rfl, ?_⟩
  rw [Nat.zero_add, h i hi]
  match i, hi with
  | 0, _ => rfl | 1, _ => rfl | 2, _ => rfl | 3, _ => rfl | 4, _ => rfl
set_option maxRecDepth 100000 in
set_option maxHeartbeats 2000000 in
theorem patchAlive_any (w : World) : Calls Try.prog 45 #[] w fun e w' => e = .returned (.bool true) ∧ Below w.heap.size w w' := by
  have B0 : Below w.heap.size w ((w.alloc (Obj.cells #[.int .u32 1, .int .u32 2, .int .u32 3, .int .u32 4, .int .u32 5] 72)).alloc (Obj.cells #[.int .u32 9, .int .u32 1, .int .u32 2, .int .u32 3, .int .u32 4] 72)) := ((Below.refl _ _).alloc (Nat.le_refl _) _).alloc (by simp) _
  have ra : Row ((w.alloc (Obj.cells #[.int .u32 1, .int .u32 2, .int .u32 3, .int .u32 4, .int .u32 5] 72)).alloc (Obj.cells #[.int .u32 9, .int .u32 1, .int .u32 2, .int .u32 3, .int .u32 4] 72)) (some ⟨w.heap.size, 0, none⟩) 5 (fun j => .int .u32 (oldF j)) :=
    (rowL fun j hj => World.cell?_alloc_at _ _ _ _ rfl : Row (w.alloc (Obj.cells #[.int .u32 1, .int .u32 2, .int .u32 3, .int .u32 4, .int .u32 5] 72)) _ _ _).alloc _
  have rb : Row ((w.alloc (Obj.cells #[.int .u32 1, .int .u32 2, .int .u32 3, .int .u32 4, .int .u32 5] 72)).alloc (Obj.cells #[.int .u32 9, .int .u32 1, .int .u32 2, .int .u32 3, .int .u32 4] 72)) (some ⟨w.heap.size + 1, 0, none⟩) 5 (fun j => .int .u32 (newF j)) :=
    rowL fun j hj => World.cell?_alloc_at _ _ _ _ (by simp)
  have HM := make_ex w.heap.size (w.heap.size + 1) _ ra rb
  clear ra rb
  go_enter Try.func45, Try.ntmps45
  go_wp2_with fail
  refine HM.mono ?_
  rintro e w1 ⟨v, f, c, rfl, hown, hb1⟩
  obtain ⟨g, cap, rfl, hg, hc⟩ := cellsO hown
  have HS := size_ex g cap f c w1 hc
  obtain ⟨⟨c0, c1, c2⟩, c3, c4, c5⟩ := hc
  go_wp2_with (go_at_call 49; refine HS.mono ?_; rintro e w2 ⟨rfl, hb2⟩)
  go_ret
  have b1 := B0.trans (hb1.mono B0.size)
  exact ⟨rfl, b1.trans (hb2.mono b1.size)⟩
set_option maxRecDepth 100000 in
set_option maxHeartbeats 2000000 in
theorem patchGreat_walk (x many : Int) (w : World) :
    Calls Try.prog 10 #[.int .u32 x, .int .i64 many] w fun e w' => e = .returned (.bool true) ∧ Below w.heap.size w w' := by
  rcases (show many < 4097 ∨ 4097 ≤ many ∧ 5000 < many ∨ 4097 ≤ many ∧ many ≤ 5000 by omega) with h | ⟨h, h2⟩ | ⟨h, h2⟩
  · go_enter Try.func10, Try.ntmps10
    go_wp2
    go_ret
    exact ⟨rfl, Below.refl _ _⟩
  · go_enter Try.func10, Try.ntmps10
    go_wp2
    go_ret
    exact ⟨rfl, Below.refl _ _⟩
  · obtain ⟨m, rfl⟩ : ∃ m : Nat, many = m := ⟨many.toNat, by omega⟩
    obtain ⟨i0, hi, hz0, hz1, hz2⟩ := info_parts infoU
    obtain ⟨W5, hmk, hown0, hgr⟩ := run_make_full (P := Try.prog) w w.heap.size 71 72 i0 (.int .u32 0) 1 Try.underlying71 hi hz0 hz1 .i64 .i64 m (by rw [hz2]; omega) (by unfold maxLen; omega) (Nat.le_refl _)
    have hb0 : Below w.heap.size w W5 := (Below.refl w.heap.size w).grown hgr (Nat.le_refl _) (by simp)
    have d0 : decide ((m : Int) < 4097) = false := by simp; omega
    have d1 : decide (5000 < (m : Int)) = false := by simp; omega
    go_enter Try.func10, Try.ntmps10
    go_wp2
    go_loopw [6] (fun i wr => ∃ (k : Nat) (xs : List Value), i = .int .i64 k ∧ k ≤ m ∧ wr.ownsRow w.heap.size 72 1 (.slice (some ⟨w.heap.size, 0, none⟩) m m) m xs ∧ Below w.heap.size w wr) (fun i _ => m - (intOf i).toNat)
    case atStart => exact ⟨0, _, rfl, Nat.zero_le _, hown0, hb0⟩
    case round =>
      obtain ⟨k, xs, rfl, hk, hown, hbr⟩ := hrel
      rcases Nat.lt_or_ge k m with hkm | hkm
      · have hx : ∃ o, xs[k]? = some o := ⟨xs[k]'(by rw [hown.1]; omega), List.getElem?_eq_getElem _⟩
        obtain ⟨o, hx⟩ := hx
        have hcA := (hown.cellAt k (by omega)).trans hx
        have hfA := hown.frozenAt k
        have t0 : decide ((k : Int) < (m : Int)) = true := by simp; omega
        have hst := hown.stored k (.int .u32 x)
        go_wp2
        go_roundw
        case rel => exact ⟨k + 1, _, by go_num, hkm, hst.1, hbr.grown hst.2 hbr.size (by rintro j hj; simp at hj; omega)⟩
        case measure => simp [intOf]; omega
      · have t0 : decide ((k : Int) < (m : Int)) = false := by simp; omega
        go_wp2_with fail
        refine (make_big (some ⟨w.heap.size, 0, none⟩) none m 0 m 0 (.inl ⟨by omega, by omega⟩) wr).mono ?_
        rintro e w1 ⟨rfl, rfl⟩
        go_wp2_with fail
        refine (make_big none (some ⟨w.heap.size, 0, none⟩) 0 m 0 m (.inr ⟨by omega, by omega, by omega⟩) wr).mono ?_
        rintro e w1 ⟨rfl, rfl⟩
        go_wp2_with fail
        refine (patchAlive_any wr).mono ?_
        rintro e w2 ⟨rfl, hb2⟩
        go_wp2_with fail
        go_ret
        exact ⟨rfl, hbr.trans (hb2.mono hbr.size)⟩
end Go.Proofs.Ytgelgpcpllmnkaa
