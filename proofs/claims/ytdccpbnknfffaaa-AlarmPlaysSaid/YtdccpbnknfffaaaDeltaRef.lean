/-
  Contracts of the document's layer 23: Drop, Add, Tick.
-/
import Derived.Test.YtdccpbnknfffaaaDeltaQ
import Derived.Test.YtdccpbnknfffaaaStage
namespace Go.Proofs.Ytdccpbnknfffaaa
open Go.RowKit
def cells2 (r : TL) : List Value := r.flatMap fun x => [.int .i64 x.1, .int .i64 x.2]
theorem cells2_snoc (r : TL) (x : Int × Int) : cells2 (r ++ [x]) = cells2 r ++ [.int .i64 x.1, .int .i64 x.2] := by simp [cells2]
theorem cells2_length (r : TL) : (cells2 r).length = r.length * 2 := by
  induction r with
  | nil => rfl
  | cons x l ih =>
    have : cells2 (x :: l) = [.int .i64 x.1, .int .i64 x.2] ++ cells2 l := by simp [cells2]
    rw [this, List.length_append, ih]; simp; omega
theorem cells2_at : ∀ {r : TL} {i : Nat}, i < r.length → (cells2 r)[i * 2]? = some (.int .i64 (r.getD i (0, 0)).1) ∧ (cells2 r)[i * 2 + 1]? = some (.int .i64 (r.getD i (0, 0)).2)
  | [], i, h => by simp at h
  | x :: l, 0, _ => by simp [cells2]
  | x :: l, i + 1, h => by
    have := cells2_at (r := l) (i := i) (by simpa using h)
    have e : cells2 (x :: l) = .int .i64 x.1 :: .int .i64 x.2 :: cells2 l := by simp [cells2]
    rw [e, show (i + 1) * 2 = i * 2 + 1 + 1 by omega, List.getElem?_cons_succ, List.getElem?_cons_succ, List.getElem?_cons_succ, List.getElem?_cons_succ]
    simpa using this
/-- Timers in a row. -/
def TAt (w : World) (ao : Option Addr) (r : TL) : Prop := ∀ i, i < r.length → ∃ b o, ao = some ⟨b, o, none⟩ ∧ w.cell? ⟨b, o + i * 2, none⟩ = some (.int .i64 (r.getD i (0, 0)).1) ∧ w.cell? ⟨b, o + i * 2 + 1, none⟩ = some (.int .i64 (r.getD i (0, 0)).2)
theorem TAt.below {w w' : World} {ao : Option Addr} {r : TL} (h : TAt w ao r) (hb : Below w.heap.size w w') : TAt w' ao r := fun i hi => by
  obtain ⟨b, o, e, h1, h2⟩ := h i hi
  exact ⟨b, o, e, (hb.cell (cell_lt h1)).trans h1, (hb.cell (cell_lt h2)).trans h2⟩
theorem tat_of_own {w : World} {base : Nat} {e : TypeId} {v : Value} {r : TL} {n : Nat} (h : w.ownsRow base e 2 v n (cells2 r)) (hn : n = r.length) : ∃ ao cap, v = .slice ao n cap ∧ TAt w ao r := by
  subst hn
  rcases h.2 with ⟨rfl, h2⟩ | ⟨g, cap, cur, rfl, _⟩
  · have h2 : r.length = 0 := h2
    exact ⟨none, 0, by rw [h2], fun i hi => by omega⟩
  · refine ⟨_, cap, rfl, fun i hi => ⟨g, 0, rfl, ?_⟩⟩
    obtain ⟨h3, h4⟩ := cells2_at hi
    rw [Nat.zero_add]
    exact ⟨(h.cellAt (i * 2) (by omega)).trans h3, (h.cellAt (i * 2 + 1) (by omega)).trans h4⟩
theorem own_base {w : World} {b b' s n : Nat} {e : TypeId} {v : Value} {xs : List Value} (h : w.ownsRow b e s v n xs) (hb : b' ≤ b) : w.ownsRow b' e s v n xs := by
  obtain ⟨h1, h2 | ⟨g, cap, cur, rfl, hg, h3⟩⟩ := h
  · exact ⟨h1, .inl h2⟩
  · exact ⟨h1, .inr ⟨g, cap, cur, rfl, Nat.le_trans hb hg, h3⟩⟩
theorem own_neq {W : World} {b b' : Nat} {e e' : TypeId} {s s' : Nat} {v v' : Value} {n n' : Nat} {xs ys : List Value} (h : W.ownsRow b e s v n xs) (h' : W.ownsRow b' e' s' v' n' ys) (hne : e ≠ e') : ∀ g, v.ownBlock = some g → v'.ownBlock ≠ some g := fun g hg hg' => by
  rcases h.2 with ⟨rfl, _⟩ | ⟨g1, _, _, rfl, _, h1, _⟩
  · cases hg
  · rcases h'.2 with ⟨rfl, _⟩ | ⟨g2, _, _, rfl, _, h2, _⟩
    · cases hg'
    · cases hg; cases hg'
      rw [h1] at h2
      simp at h2
      exact hne h2.2
theorem infoT2 : (Try.prog.info? 43).map (fun i => (i.zero, i.size, i.bytes)) = some (some (.agg #[.int .i64 0, .int .i64 0]), 2, 16) := by kernel_rfl
theorem take_snoc {r : TL} {k : Nat} (hk : k < r.length) : r.take (k + 1) = r.take k ++ [r.getD k (0, 0)] := by
  rw [List.take_succ_eq_append_getElem hk]; simp [hk]
theorem dropR_snoc (id : Int) (l : TL) (x : Int × Int) : dropR id (l ++ [x]) = if x.1 = id then dropR id l else dropR id l ++ [x] := by
  unfold dropR
  rw [List.filter_append]
  by_cases h : x.1 = id
  · rw [if_pos h, List.filter_cons_of_neg (by simpa using h)]; simp
  · rw [if_neg h, List.filter_cons_of_pos (by simpa using h)]; simp
theorem look_snoc (id : Int) (l : TL) (x : Int × Int) : (look id (l ++ [x])).isSome = ((look id l).isSome || (x.1 == id)) := by
  rw [Bool.eq_iff_iff, Bool.or_eq_true, look_isSome, look_isSome, beq_iff_eq]
  constructor
  · rintro ⟨y, hy, e⟩
    rcases List.mem_append.1 hy with h | h
    · exact .inl ⟨y, h, e⟩
    · simp only [List.mem_singleton] at h; subst h; exact .inr e
  · rintro (⟨y, hy, e⟩ | e)
    · exact ⟨y, List.mem_append_left _ hy, e⟩
    · exact ⟨x, by simp, e⟩
set_option maxRecDepth 100000 in
set_option maxHeartbeats 1000000 in
theorem rdrop_any (ao : Option Addr) (cap n : Nat) (r : TL) (hrn : r.length = n) (id : Int) (w : World) (hT : TAt w ao r) (hn : n ≤ 64) :
    Calls Try.prog 9 #[.slice ao n cap, .int .i64 id] w fun e w' => ∃ v, e = .returned (.tuple #[v, .bool (look id r).isSome]) ∧ w'.ownsRow w.heap.size 43 2 v (dropR id r).length (cells2 (dropR id r)) ∧ Below w.heap.size w w' := by
  obtain ⟨i0, hi, hz0, hz1, hz2⟩ := info_parts infoT2
  have HN := hid hrn
  have HT := hid hT
  clear hT hrn
  go_enter Try.func9, Try.ntmps9
  go_wp2
  go_loopw [6, 7, 8] (fun v f i wr => ∃ k : Nat, k ≤ n ∧ i = .int .i64 k ∧ f = .bool (look id (r.take k)).isSome ∧ wr.ownsRow w.heap.size 43 2 v (dropR id (r.take k)).length (cells2 (dropR id (r.take k))) ∧ Below w.heap.size w wr) (fun _ _ i _ => n - (intOf i).toNat)
  case atStart => exact ⟨0, by omega, rfl, rfl, World.ownsRow_nil w w.heap.size 43 2, Below.refl _ _⟩
  case round =>
    obtain ⟨k, hk, rfl, rfl, hown, hbr⟩ := hrel
    by_cases hlt : k < n
    · obtain ⟨b, o, rfl, c1, c2⟩ := HT.out.below hbr k (by rw [HN.out]; exact hlt)
      have hts := take_snoc (r := r) (k := k) (by rw [HN.out]; exact hlt)
      have HDS := hid (dropR_snoc id (r.take k) (r.getD k (0, 0)))
      have HLS := hid (look_snoc id (r.take k) (r.getD k (0, 0)))
      rw [← hts] at HDS HLS
      have i0' : (0 : Int) ≤ (k : Int) := by omega
      have i1 : (k : Int) < (n : Int) := by omega
      generalize r.getD k (0, 0) = x at c1 c2 HDS HLS
      obtain ⟨xi, xt⟩ := x
      dsimp only at c1 c2 HDS HLS
      have hdl : (dropR id (r.take k)).length ≤ 64 := by
        have h1 : (dropR id (r.take k)).length ≤ (r.take k).length := List.length_filter_le _ _
        have h2 : (r.take k).length ≤ k := by rw [List.length_take]; omega
        omega
      clear hts
      by_cases hx : xi = id
      · have t1 : (xi == id) = true := by simpa using hx
        rw [t1, Bool.or_true] at HLS
        rw [if_pos hx] at HDS
        go_wp2
        go_roundw
        case rel => exact ⟨k + 1, by omega, by go_num, by rw [HLS.out], by rw [HDS.out]; exact hown, hbr⟩
        case measure => simp [intOf]; omega
      · have t1 : (xi == id) = false := by simpa using hx
        rw [t1, Bool.or_false] at HLS
        rw [if_neg hx] at HDS
        have HL2 := hid (congrArg List.length HDS.out)
        have HC2 := hid ((congrArg cells2 HDS.out).trans (cells2_snoc _ _))
        rw [List.length_append] at HL2
        generalize hDD : dropR id (r.take k) = D at hown HL2 HC2 hdl
        have hownA := hown.alloc (Obj.cells #[Value.int .i64 xi, Value.int .i64 xt] 43)
        have hbW := hbr.alloc hbr.size (Obj.cells #[Value.int .i64 xi, Value.int .i64 xt] 43)
        have hnews : ∀ (j : Nat) (u : Value), [Value.int .i64 xi, Value.int .i64 xt][j]? = some u → (wr.alloc (Obj.cells #[Value.int .i64 xi, Value.int .i64 xt] 43)).cell? ((⟨wr.heap.size, 0, none⟩ : Addr).add j) = some u := fun j u hj => by
          rw [add_off, Nat.zero_add, World.cell?_alloc_at _ _ _ _ rfl]; simpa using hj
        have hsz := hid hbW.size
        clear HDS hDD hbr
        go_wp2_with (at_builtin; refine wpList_append_own _ rfl _ _ 27 rfl w.heap.size 43 i0 (.agg #[.int .i64 0, .int .i64 0]) 2 16 Try.underlying27 hi hz0 hz1 hz2 rfl (by decide) u6 D.length _ rfl hownA ⟨wr.heap.size, 0, none⟩ 1 1 _ rfl (by simp) hnews (by simp [Value.oneCell']) (by unfold maxLen; omega) (by omega) hsz.out ?_; intro v' w1 hown1 hgrow _; rw [← HC2.out] at hown1)
        go_roundw
        case rel => exact ⟨k + 1, by omega, by go_num, by rw [HLS.out], by rw [HL2.out]; exact hown1, hbW.grown hgrow hsz.out fun j hj => (hownA.lt j hj).1⟩
        case measure => simp [intOf]; omega
    · obtain rfl : k = n := by omega
      have htk : r.take k = r := List.take_of_length_le (by rw [HN.out]; exact Nat.le_refl _)
      rw [htk] at hown ⊢
      go_wp2
      go_ret2
      exact ⟨_, rfl, hown, hbr⟩
end Go.Proofs.Ytdccpbnknfffaaa
