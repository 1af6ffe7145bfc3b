/-
  Contracts: patch.flush, patch.Make: the pieces, whatever the words.
-/
import Derived.Test.YtgelgpcpllmnkaaPatchGreat
import Derived.Test.YtgelgpcpllmnkaaQueue
namespace Go.Proofs.Ytgelgpcpllmnkaa
open Go.RowKit
/-- A piece: from where on, how many; or new words. -/
abbrev Pc := Int × Int × List Int
def vu (xs : List Int) : List Value := xs.map (Value.int .u32 ·)
theorem vu_length (xs : List Int) : (vu xs).length = xs.length := List.length_map ..
theorem vu_append (xs ys : List Int) : vu (xs ++ ys) = vu xs ++ vu ys := List.map_append ..
theorem vu_one (xs : List Int) : ∀ v ∈ vu xs, v.oneCell' = true := fun v hv => by obtain ⟨x, _, rfl⟩ := List.mem_map.1 hv; rfl
def cellsOfPc (x : Pc × Value) : List Value := [.int .i64 x.1.1, .int .i64 x.1.2.1, x.2]
def cellsP (ps : List (Pc × Value)) : List Value := ps.flatMap cellsOfPc
theorem cellsP_snoc (ps : List (Pc × Value)) (x : Pc × Value) : cellsP (ps ++ [x]) = cellsP ps ++ cellsOfPc x := by simp [cellsP]
theorem own_ne {W : World} {b b' : Nat} {e e' : TypeId} {s s' : Nat} {v v' : Value} {n n' : Nat} {xs ys : List Value} (h : W.ownsRow b e s v n xs) (h' : W.ownsRow b' e' s' v' n' ys) (hne : e ≠ e') : ∀ g, v.ownBlock = some g → v'.ownBlock ≠ some g := fun g hg hg' => by
  rcases h.2 with ⟨rfl, _⟩ | ⟨g1, _, _, rfl, _, h1, _⟩
  · cases hg
  · rcases h'.2 with ⟨rfl, _⟩ | ⟨g2, _, _, rfl, _, h2, _⟩
    · cases hg'
    · cases hg; cases hg'
      rw [h1] at h2
      simp at h2
      exact hne h2.2
theorem own_saveN {W W' : World} {S : Nat → Prop} {b n s : Nat} {e : TypeId} {u : Value} {ys : List Value} (h : W.ownsRow b e s u n ys) (hs : Save S W W') (hn : ∀ g, u.ownBlock = some g → ¬ S g) : W'.ownsRow b e s u n ys := by
  obtain ⟨h1, h2 | ⟨g, cap, cur, rfl, hb, hg, hr⟩⟩ := h
  · exact ⟨h1, .inl h2⟩
  · exact ⟨h1, .inr ⟨g, cap, cur, rfl, hb, (hs.block g (Array.getElem?_eq_some_iff.1 hg).1 (hn g rfl)).trans hg, hr⟩⟩
/-- A piece's words lie in a row of their own, not in that one. -/
def PcOk (W : World) (B : Nat) (no : Option Nat) (x : Pc × Value) : Prop :=
  x.1.2.2 = [] ∧ x.2 = .slice none 0 0 ∨ 0 < x.1.2.2.length ∧ W.ownsRow B 72 1 x.2 x.1.2.2.length (vu x.1.2.2) ∧ x.2.ownBlock ≠ no
theorem PcOk.save {W W' : World} {B : Nat} {no no' : Option Nat} {x : Pc × Value} {S : Nat → Prop} (h : PcOk W B no x) (hs : Save S W W') (hn : ∀ g, x.2.ownBlock = some g → W.ownsRow B 72 1 x.2 x.1.2.2.length (vu x.1.2.2) → x.2.ownBlock ≠ no → ¬ S g ∧ no' ≠ some g) : PcOk W' B no' x := by
  rcases h with h | ⟨h1, h2, h3⟩
  · exact .inl h
  · refine .inr ⟨h1, own_saveN h2 hs fun g hg => (hn g hg h2 h3).1, fun e => ?_⟩
    obtain ⟨g, cap, e1, _⟩ := own_form h2 h1
    have hg : x.2.ownBlock = some g := by rw [e1]; rfl
    exact (hn g hg h2 h3).2 (e.symm.trans hg)
theorem own_none {W : World} {B : Nat} {v : Value} {n : Nat} {xs : List Value} {e : TypeId} (h : W.ownsRow B e 1 v n xs) (hn : 0 < n) : v.ownBlock ≠ none := by
  obtain ⟨g, cap, e1, _⟩ := own_form h hn
  rw [e1]; intro h; cases h
/-! ### flush -/
def flushF (ps : List Pc) (fs : List Int) : List Pc := if fs = [] then ps else ps ++ [(0, 0, fs)]
def FlushP (B : Nat) (qs : List Pc) (w : World) (e : Ending) (w' : World) : Prop := ∃ v' ps', e = .returned v' ∧ w'.ownsRow B 88 3 v' ps'.length (cellsP ps') ∧ ps'.map Prod.fst = qs ∧ (∀ x ∈ ps', PcOk w' B none x) ∧ Below B w w'
set_option maxRecDepth 100000 in
set_option maxHeartbeats 1000000 in
theorem flush_any (B : Nat) (v fr : Value) (ps : List (Pc × Value)) (fs : List Int) (w : World) (ho : w.ownsRow B 88 3 v ps.length (cellsP ps)) (hf : w.ownsRow B 72 1 fr fs.length (vu fs)) (hok : ∀ x ∈ ps, PcOk w B fr.ownBlock x)
    (hB : B ≤ w.heap.size) (hl : ps.length ≤ 10000) (hfl : fs.length ≤ 10000) :
    Calls Try.prog 58 #[v, fr] w fun e w' => FlushP B (flushF (ps.map Prod.fst) fs) w e w' := by
  obtain ⟨i0, hi, hz0, hz1, hz2⟩ := info_parts infoO
  rcases Nat.eq_zero_or_pos fs.length with h0 | h0
  · obtain rfl : fs = [] := List.eq_nil_of_length_eq_zero h0
    have key : ∃ l c, fr = .slice l 0 c := by
      rcases hf.2 with ⟨h, _⟩ | ⟨g, cap, _, h, _⟩
      · exact ⟨_, _, h⟩
      · exact ⟨_, _, h⟩
    obtain ⟨l, c, rfl⟩ := key
    have HF := hid (show flushF (ps.map Prod.fst) [] = ps.map Prod.fst from if_pos rfl)
    go_enter Try.func58, Try.ntmps58
    go_wp2
    go_ret
    refine ⟨v, ps, rfl, ho, HF.out.symm, fun x hx => (hok x hx).save (Save.refl (fun _ => False) w) fun g hg _ _ => ⟨id, fun e => by cases e⟩, Below.refl _ _⟩
  · obtain ⟨g, c, rfl, hbg, hgs, _, _, _⟩ := own_form hf h0
    have HF := hid (show flushF (ps.map Prod.fst) fs = ps.map Prod.fst ++ [(0, 0, fs)] from if_neg fun e => by rw [e] at h0; cases h0)
    have hd : ((fs.length : Int) == 0) = false := beq_eq_false_iff_ne.2 (by omega)
    have r0 := ho.alloc (Obj.cells #[.int .i64 0, .int .i64 0, .slice (some ⟨g, 0, none⟩) fs.length c] 88)
    have hbw := (Below.refl B w).alloc hB (Obj.cells #[.int .i64 0, .int .i64 0, .slice (some ⟨g, 0, none⟩) fs.length c] 88)
    have hnews : ∀ (j : Nat) (u : Value), [Value.int .i64 0, .int .i64 0, .slice (some ⟨g, 0, none⟩) fs.length c][j]? = some u → (w.alloc (Obj.cells #[.int .i64 0, .int .i64 0, .slice (some ⟨g, 0, none⟩) fs.length c] 88)).cell? ((⟨w.heap.size, 0, none⟩ : Addr).add j) = some u := fun j u hj => by
      rw [add_off, Nat.zero_add, World.cell?_alloc_at _ _ _ _ rfl]; simpa using hj
    have hsz := hid (show B ≤ (w.alloc (Obj.cells #[.int .i64 0, .int .i64 0, .slice (some ⟨g, 0, none⟩) fs.length c] 88)).heap.size by rw [World.size_alloc]; omega)
    go_enter Try.func58, Try.ntmps58
    go_wp2_with (at_builtin; refine wpList_append_own _ rfl _ _ 81 rfl B 88 i0 (.agg #[.int .i64 0, .int .i64 0, .slice none 0 0]) 3 40 Try.underlying81 hi hz0 hz1 hz2 rfl (by decide) v ps.length (cellsP ps) rfl r0 ⟨w.heap.size, 0, none⟩ 1 1 _ rfl (by simp) hnews (by simp [Value.oneCell']) (by unfold maxLen; omega) (by omega) hsz.out ?_; intro v' w2 hown2 hgrow _)
    go_ret
    have hS := (Save.alloc w (Obj.cells #[.int .i64 0, .int .i64 0, .slice (some ⟨g, 0, none⟩) fs.length c] 88)).mono (S' := fun k => v.ownBlock = some k) fun _ h => h.elim
    have hS2 := hS.trans (Save.of_grown hgrow) fun _ _ h => h
    refine ⟨v', ps ++ [((0, 0, fs), .slice (some ⟨g, 0, none⟩) fs.length c)], rfl, by rw [List.length_append, cellsP_snoc]; exact hown2, by rw [HF.out]; simp, fun x hx => ?_, hbw.grown hgrow hsz.out fun j hj => (r0.lt j hj).1⟩
    rcases List.mem_append.1 hx with hx | hx
    · exact (hok x hx).save hS2 fun g' hg' hr _ => ⟨fun e => own_ne hr ho (by decide) g' hg' e, fun e => by cases e⟩
    · obtain rfl : x = ((0, 0, fs), .slice (some ⟨g, 0, none⟩) fs.length c) := by simpa using hx
      exact .inr ⟨h0, own_saveN hf hS2 fun g' hg' e => own_ne hf ho (by decide) g' hg' e, fun e => by cases e⟩
/-! ### Make -/
def makeF (a b : Nat → Int) (la lb : Nat) : Nat → Nat → List Pc → List Int → List Pc
  | 0, _, ps, fs => flushF ps fs
  | m + 1, k, ps, fs => if lb ≤ k then flushF ps fs else
    if (longF a b la lb k la).2 < 4 then makeF a b la lb m (k + 1) ps (fs ++ [b k])
    else makeF a b la lb m (k + (longF a b la lb k la).2) (flushF ps fs ++ [(((longF a b la lb k la).1 : Int), ((longF a b la lb k la).2 : Int), [])]) []
theorem makeF_end {a b : Nat → Int} {la lb k : Nat} (m : Nat) (ps : List Pc) (fs : List Int) (h : lb ≤ k) : makeF a b la lb m k ps fs = flushF ps fs := by
  cases m with
  | zero => rfl
  | succ m => exact if_pos h
theorem makeF_new {a b : Nat → Int} {la lb k m : Nat} {ps : List Pc} {fs : List Int} (hm : lb ≤ k + m) (h : k < lb) (h4 : (longF a b la lb k la).2 < 4) : makeF a b la lb m k ps fs = makeF a b la lb (m - 1) (k + 1) ps (fs ++ [b k]) := by
  cases m with
  | zero => omega
  | succ m => show (if _ then _ else if _ then _ else _) = _; rw [if_neg (by omega), if_pos h4]; rfl
theorem makeF_old {a b : Nat → Int} {la lb k m : Nat} {ps : List Pc} {fs : List Int} (hm : lb ≤ k + m) (h : k < lb) (h4 : ¬ (longF a b la lb k la).2 < 4) : makeF a b la lb m k ps fs = makeF a b la lb (m - 1) (k + (longF a b la lb k la).2) (flushF ps fs ++ [(((longF a b la lb k la).1 : Int), ((longF a b la lb k la).2 : Int), [])]) [] := by
  cases m with
  | zero => omega
  | succ m => show (if _ then _ else if _ then _ else _) = _; rw [if_neg (by omega), if_neg h4]; rfl
/-- A longest piece stands where it is told. -/
theorem sameF_spec {a b : Nat → Int} {la lb i k : Nat} : ∀ f n, (∀ j, j < n → i + j < la ∧ k + j < lb ∧ a (i + j) = b (k + j)) → ∀ j, j < sameF a b la lb i k f n → i + j < la ∧ k + j < lb ∧ a (i + j) = b (k + j) := by
  intro f
  induction f with
  | zero => intro n h j hj; exact h j hj
  | succ f ih =>
    intro n h j hj
    unfold sameF at hj
    split at hj
    · rename_i hc
      refine ih (n + 1) (fun j hj => ?_) j hj
      rcases Nat.lt_or_ge j n with h1 | h1
      · exact h j h1
      · obtain rfl : j = n := by omega
        exact hc
    · exact h j hj
theorem longF_spec {a b : Nat → Int} {la lb k : Nat} : ∀ i j, j < (longF a b la lb k i).2 → (longF a b la lb k i).1 + j < la ∧ k + j < lb ∧ a ((longF a b la lb k i).1 + j) = b (k + j) := by
  intro i
  induction i with
  | zero => intro j hj; cases hj
  | succ i ih =>
    intro j hj
    unfold longF at hj ⊢
    split
    · rename_i h
      rw [if_pos h] at hj
      exact sameF_spec la 0 (fun j hj => by omega) j hj
    · rename_i h
      rw [if_neg h] at hj
      exact ih j hj
theorem longF_le {a b : Nat → Int} {la lb k : Nat} (h : 0 < (longF a b la lb k la).2) : (longF a b la lb k la).1 + (longF a b la lb k la).2 ≤ la ∧ k + (longF a b la lb k la).2 ≤ lb := by
  have := longF_spec la _ (Nat.sub_lt h Nat.one_pos)
  omega
theorem flushF_len (ps : List Pc) (fs : List Int) : (flushF ps fs).length ≤ ps.length + 1 := by
  unfold flushF; split <;> simp
def MadeP (qs : List Pc) (w : World) (e : Ending) (w' : World) : Prop := ∃ v' ps', e = .returned (.tuple #[v', .int .i64 0]) ∧ w'.ownsRow w.heap.size 88 3 v' ps'.length (cellsP ps') ∧ ps'.map Prod.fst = qs ∧ (∀ x ∈ ps', PcOk w' w.heap.size none x) ∧ Below w.heap.size w w'
set_option maxRecDepth 100000 in
set_option maxHeartbeats 2000000 in
theorem make_any (ao bo : Option Addr) (la lb ca cb : Nat) (a b : Nat → Int) (w : World) (ha : Row w ao la (fun j => .int .u32 (a j))) (hb : Row w bo lb (fun j => .int .u32 (b j))) (hla : la ≤ 4096) (hlb : lb ≤ 4096) :
    Calls Try.prog 44 #[.slice ao la ca, .slice bo lb cb] w fun e w' => MadeP (makeF a b la lb lb 0 [] []) w e w' := by
  obtain ⟨i0, hi, hz0, hz1, hz2⟩ := info_parts infoU
  obtain ⟨o0, ho, hy0, hy1, hy2⟩ := info_parts infoO
  have d1 : decide (4096 < (la : Int)) = false := by simp; omega
  have d2 : decide (4096 < (lb : Int)) = false := by simp; omega
  have HLG : Hid (∀ k W, k ≤ 5000 → Below w.heap.size w W → Calls Try.prog 57 #[.slice ao la ca, .slice bo lb cb, .int .i64 (k : Nat)] W fun e w' => e = .returned (rvN (longF a b la lb k la)) ∧ Below W.heap.size W w') := fun k W hk hW => longest_any ao bo la lb ca cb a b k W (ha.below hW) (hb.below hW) (by omega) (by omega) hk
  go_enter Try.func44, Try.ntmps44
  go_wp2
  go_loopw [6, 7, 8, 9, 10] (fun out fr at_ _ _ wr => ∃ (k m : Nat) (ps : List (Pc × Value)) (fs : List Int), at_ = .int .i64 k ∧ k ≤ lb ∧ lb ≤ k + m ∧ ps.length ≤ 2 * k ∧ fs.length ≤ k ∧ Hid (makeF a b la lb lb 0 [] [] = makeF a b la lb m k (ps.map Prod.fst) fs) ∧ wr.ownsRow w.heap.size 88 3 out ps.length (cellsP ps) ∧ wr.ownsRow w.heap.size 72 1 fr fs.length (vu fs) ∧ (∀ x ∈ ps, PcOk wr w.heap.size fr.ownBlock x) ∧ Below w.heap.size w wr) (fun _ _ at_ _ _ _ => lb - (intOf at_).toNat)
  case atStart => exact ⟨0, lb, [], [], rfl, Nat.zero_le _, by omega, Nat.zero_le _, Nat.zero_le _, rfl, World.ownsRow_nil _ _ _ _, World.ownsRow_nil _ _ _ _, fun x hx => (by cases hx), Below.refl _ _⟩
  case round =>
    obtain ⟨k, m, ps, fs, rfl, hk, hm, hpl, hfl, HO, hown, hfr, hok, hbr⟩ := hrel
    rcases Nat.lt_or_ge k lb with hlt | hge
    · have t0 : decide ((k : Int) < (lb : Int)) = true := by simp; omega
      have HC := hid (HLG.out k wr (by omega) hbr)
      by_cases h4 : (longF a b la lb k la).2 < 4
      · have HN := hid (HO.out.trans (makeF_new hm hlt h4))
        clear HO HLG
        obtain ⟨⟨r, q⟩, hr⟩ : ∃ y, longF a b la lb k la = y := ⟨_, rfl⟩
        rw [hr] at HC h4
        clear hr
        have h4' : q < 4 := h4
        have d3 : decide ((q : Int) < 4) = true := by simp; omega
        clear h4
        obtain ⟨pb, po, rfl, hc00⟩ := hb k hlt
        have hc0 : w.cell? ⟨pb, po + k, none⟩ = some (.int .u32 (b k)) := hc00
        have hcl := cell_lt hc0
        clear hc00
        obtain ⟨x, hx⟩ : ∃ x, b k = x := ⟨_, rfl⟩
        rw [hx] at HN hc0
        clear hx
        go_wp2_with fail
        refine HC.out.mono ?_
        rintro e w1 ⟨rfl, hb1⟩
        have b1 := hbr.trans (hb1.mono hbr.size)
        have hS1 := Save.of_below hb1 fun _ => False
        have hown1 := own_saveN hown hS1 fun _ _ => id
        have hfr1 := own_saveN hfr hS1 fun _ _ => id
        have hok1 : ∀ x ∈ ps, PcOk w1 w.heap.size u7.ownBlock x := fun x hx => (hok x hx).save hS1 fun g hg _ hne => ⟨id, fun e => hne (hg.trans e.symm)⟩
        have hc1 : w1.cell? ⟨pb, po + k, none⟩ = some (.int .u32 x) := (b1.cell hcl).trans hc0
        have hsz := hid b1.size
        clear HC hok hown hfr
        go_wp2_with (at_builtin; refine wpList_append_own_at _ rfl _ _ 71 rfl w.heap.size 72 i0 (.int .u32 0) 1 4 Try.underlying71 hi hz0 hz1 hz2 rfl (by decide) u7 fs.length (vu fs) rfl (hfr1.alloc _) ⟨w1.heap.size, 0, none⟩ 1 1 _ rfl rfl (cell_one_new _ _ _) (by simp [Value.oneCell']) (by unfold maxLen; omega) (by omega) (by have := hsz.out; rw [World.size_alloc]; omega) ?_; intro v' w2 hown2 hgrow _ hat)
        go_roundw
        case rel =>
          have hS2 := ((Save.alloc w1 (Obj.cells #[.int .u32 x] 72)).mono (S' := fun k => u7.ownBlock = some k) fun _ h => h.elim).trans (Save.of_grown hgrow) fun _ _ h => h
          refine ⟨k + 1, m - 1, ps, fs ++ [x], by go_num, hlt, by omega, by omega, by simp; omega, HN.out, own_saveN hown1 hS2 fun g hg e => own_ne hown1 hfr1 (by decide) g hg e, by rw [List.length_append, vu_append]; exact hown2, fun y hy => (hok1 y hy).save hS2 fun g hg hr hne => ⟨fun e => hne (hg.trans e.symm), fun e => ?_⟩, (b1.alloc hsz.out _).grown hgrow (by have := hsz.out; rw [World.size_alloc]; omega) fun j hj => (hfr1.lt j hj).1⟩
          rcases hat with h | h
          · rw [h] at e; exact hne (hg.trans e.symm)
          · rw [h] at e
            have := (hr.lt g hg).2
            simp at e
            omega
        case measure => simp [intOf]; omega
      · have HN := hid (HO.out.trans (makeF_old hm hlt h4))
        have hle := longF_le (a := a) (b := b) (la := la) (lb := lb) (k := k) (by omega)
        clear HO HLG
        obtain ⟨⟨r, q⟩, hr⟩ : ∃ y, longF a b la lb k la = y := ⟨_, rfl⟩
        rw [hr] at HC h4 HN hle
        clear hr
        have h4' : ¬ q < 4 := h4
        have hle2 : k + q ≤ lb := hle.2
        have d3 : decide ((q : Int) < 4) = false := by simp; omega
        clear h4 hle
        go_wp2_with fail
        refine HC.out.mono ?_
        rintro e w1 ⟨rfl, hb1⟩
        have b1 := hbr.trans (hb1.mono hbr.size)
        have hS1 := Save.of_below hb1 fun _ => False
        have hown1 := own_saveN hown hS1 fun _ _ => id
        have hfr1 := own_saveN hfr hS1 fun _ _ => id
        have hok1 : ∀ x ∈ ps, PcOk w1 w.heap.size u7.ownBlock x := fun x hx => (hok x hx).save hS1 fun g hg _ hne => ⟨id, fun e => hne (hg.trans e.symm)⟩
        have HF := hid (flush_any w.heap.size u6 u7 ps fs w1 hown1 hfr1 hok1 b1.size (by omega) (by omega))
        clear HC hok hown hfr
        go_wp2_with fail
        refine HF.out.mono ?_
        rintro e w2 ⟨v2, ps2, rfl, ho2, hm2, hk2, hb2⟩
        have b2 := b1.trans hb2
        have hl2 : ps2.length ≤ ps.length + 1 := by
          have := congrArg List.length hm2
          rw [List.length_map] at this
          have h3 := flushF_len (ps.map Prod.fst) fs
          rw [List.length_map] at h3
          omega
        have r0 := ho2.alloc (Obj.cells #[.int .i64 r, .int .i64 q, .slice none 0 0] 88)
        have hnews : ∀ (j : Nat) (u : Value), [Value.int .i64 r, .int .i64 q, .slice none 0 0][j]? = some u → (w2.alloc (Obj.cells #[.int .i64 r, .int .i64 q, .slice none 0 0] 88)).cell? ((⟨w2.heap.size, 0, none⟩ : Addr).add j) = some u := fun j u hj => by
          rw [add_off, Nat.zero_add, World.cell?_alloc_at _ _ _ _ rfl]; simpa using hj
        have hsz := hid b2.size
        clear HF
        go_wp2_with (at_builtin; refine wpList_append_own _ rfl _ _ 81 rfl w.heap.size 88 o0 (.agg #[.int .i64 0, .int .i64 0, .slice none 0 0]) 3 40 Try.underlying81 ho hy0 hy1 hy2 rfl (by decide) v2 ps2.length (cellsP ps2) rfl r0 ⟨w2.heap.size, 0, none⟩ 1 1 _ rfl (by simp) hnews (by simp [Value.oneCell']) (by unfold maxLen; omega) (by omega) (by have := hsz.out; rw [World.size_alloc]; omega) ?_; intro v3 w3 hown3 hgrow _)
        go_roundw
        case rel =>
          have hS2 := ((Save.alloc w2 (Obj.cells #[.int .i64 r, .int .i64 q, .slice none 0 0] 88)).mono (S' := fun k => v2.ownBlock = some k) fun _ h => h.elim).trans (Save.of_grown hgrow) fun _ _ h => h
          refine ⟨k + q, m - 1, ps2 ++ [(((r : Int), (q : Int), []), .slice none 0 0)], [], by go_num, hle2, by omega, by simp; omega, by simp, by rw [List.map_append, hm2]; exact HN.out, by rw [List.length_append, cellsP_snoc]; exact hown3, World.ownsRow_nil _ _ _ _, fun y hy => ?_, (b2.alloc hsz.out _).grown hgrow (by have := hsz.out; rw [World.size_alloc]; omega) fun j hj => (ho2.lt j hj).1⟩
          rcases List.mem_append.1 hy with hy | hy
          · exact (hk2 y hy).save hS2 fun g hg hr _ => ⟨fun e => own_ne hr ho2 (by decide) g hg e, fun e => by cases e⟩
          · obtain rfl : y = (((r : Int), (q : Int), []), .slice none 0 0) := by simpa using hy
            exact .inl ⟨rfl, rfl⟩
        case measure => simp [intOf]; omega
    · obtain rfl : k = lb := by omega
      have HE := hid (HO.out.trans (makeF_end _ _ _ (Nat.le_refl _)))
      clear HO HLG
      have t0 : decide ((k : Int) < (k : Int)) = false := by simp
      have HF := hid (flush_any w.heap.size u6 u7 ps fs wr hown hfr hok hbr.size (by omega) (by omega))
      go_wp2_with fail
      refine HF.out.mono ?_
      rintro e w1 ⟨v', ps', rfl, ho1, hm1, hk1, hb1⟩
      go_wp2_with fail
      go_ret2
      exact ⟨v', ps', rfl, ho1, hm1.trans HE.out.symm, hk1, hbr.trans hb1⟩
end Go.Proofs.Ytgelgpcpllmnkaa
