/-
  Contract of the document's stands; how it tells the longest piece.
-/
import Derived.Test.YtgelgpcpllmnkaaPatchBack
import Derived.Test.YtgelgpcpllmnkaaFree
import Derived.Laws.AppendOwnNone
namespace Go.Proofs.Ytgelgpcpllmnkaa
open Go.RowKit
theorem below_dn {w W : World} {k : Nat} (h : Below w.heap.size w W) : Below w.heap.size w (W.drewN k) := h.trans ⟨rfl, rfl, rfl, Nat.le_refl _, fun _ _ => rfl⟩
def standsB (a b : Nat → Int) (la lb i m k : Nat) : Bool := decide (i + m ≤ la) && decide (k + m ≤ lb) && (List.range m).all fun j => a (i + j) == b (k + j)
theorem sameF_end {a b : Nat → Int} {la lb i k : Nat} : ∀ f n, la ≤ i + n + f → ¬ (i + sameF a b la lb i k f n < la ∧ k + sameF a b la lb i k f n < lb ∧ a (i + sameF a b la lb i k f n) = b (k + sameF a b la lb i k f n)) := by
  intro f
  induction f with
  | zero => intro n h hc; have := hc.1; unfold sameF at this; omega
  | succ f ih =>
    intro n h
    unfold sameF
    split
    · exact ih (n + 1) (by omega)
    · rename_i hc; exact hc
theorem stands_same {a b : Nat → Int} {la lb i k m : Nat} (hm : 0 < m) : standsB a b la lb i m k = decide (m ≤ sameF a b la lb i k la 0) := by
  have hs := sameF_spec (a := a) (b := b) (la := la) (lb := lb) (i := i) (k := k) la 0 (fun j hj => by omega)
  have he := sameF_end (a := a) (b := b) (la := la) (lb := lb) (i := i) (k := k) la 0 (by omega)
  rw [Bool.eq_iff_iff]
  simp only [standsB, Bool.and_eq_true, decide_eq_true_iff, List.all_eq_true, List.mem_range, beq_iff_eq]
  constructor
  · rintro ⟨⟨h1, h2⟩, h3⟩
    rcases Nat.lt_or_ge (sameF a b la lb i k la 0) m with h | h
    · exact absurd ⟨by omega, by omega, h3 _ h⟩ he
    · exact h
  · intro h
    have := hs (m - 1) (by omega)
    exact ⟨⟨by omega, by omega⟩, fun j hj => (hs j (by omega)).2.2⟩
set_option maxRecDepth 100000 in
set_option maxHeartbeats 1000000 in
theorem stands_any (ao bo : Option Addr) (la lb ca cb : Nat) (a b : Nat → Int) (i m k : Nat) (w : World) (ha : Row w ao la (fun j => .int .u32 (a j))) (hb : Row w bo lb (fun j => .int .u32 (b j))) (hla : la ≤ 5000) (hlb : lb ≤ 5000) (hi : i ≤ 5000) (hm : m ≤ 5001) (hk : k ≤ 5000) :
    Calls Try.prog 59 #[.slice ao la ca, .slice bo lb cb, .int .i64 i, .int .i64 m, .int .i64 k] w fun e w' => e = .returned (.bool (standsB a b la lb i m k)) ∧ Below w.heap.size w w' := by
  by_cases h1 : la < i + m
  · have HE : Hid (standsB a b la lb i m k = false) := by unfold Hid standsB; rw [decide_eq_false (by omega)]; rfl
    have d1 : decide ((la : Int) < (i : Int) + (m : Int)) = true := by simp; omega
    go_enter Try.func59, Try.ntmps59
    go_wp2
    go_ret
    exact ⟨by rw [HE.out]; rfl, Below.refl _ _⟩
  · have d1 : decide ((la : Int) < (i : Int) + (m : Int)) = false := by simp; omega
    by_cases h2 : lb < k + m
    · have HE : Hid (standsB a b la lb i m k = false) := by unfold Hid standsB; rw [decide_eq_false (p := k + m ≤ lb) (by omega), Bool.and_false]; rfl
      have d2 : decide ((lb : Int) < (k : Int) + (m : Int)) = true := by simp; omega
      go_enter Try.func59, Try.ntmps59
      go_wp2
      go_ret
      exact ⟨by rw [HE.out]; rfl, Below.refl _ _⟩
    · have d2 : decide ((lb : Int) < (k : Int) + (m : Int)) = false := by simp; omega
      have HS0 : Hid (standsB a b la lb i m k = (List.range m).all fun j => a (i + j) == b (k + j)) := by
        unfold Hid standsB; rw [decide_eq_true (p := i + m ≤ la) (by omega), decide_eq_true (p := k + m ≤ lb) (by omega)]; rfl
      go_enter Try.func59, Try.ntmps59
      go_wp2
      go_loopw [11] (fun j_ wr => ∃ j : Nat, j_ = .int .i64 j ∧ j ≤ m ∧ Hid (∀ t, t < j → a (i + t) = b (k + t)) ∧ Below w.heap.size w wr) (fun j_ _ => m - (intOf j_).toNat)
      case atStart => exact ⟨0, rfl, Nat.zero_le _, fun t ht => by omega, Below.refl _ _⟩
      case round =>
        obtain ⟨j, rfl, hj, HS, hbr⟩ := hrel
        rcases Nat.lt_or_ge j m with hlt | hge
        · have t0 : decide ((j : Int) < (m : Int)) = true := by simp; omega
          obtain ⟨pb, po, rfl, hc0⟩ := (ha.below hbr) (i + j) (by omega)
          have hc : wr.cell? ⟨pb, po + (i + j), none⟩ = some (.int .u32 (a (i + j))) := hc0
          obtain ⟨qb, qo, rfl, gc0⟩ := (hb.below hbr) (k + j) (by omega)
          have gc : wr.cell? ⟨qb, qo + (k + j), none⟩ = some (.int .u32 (b (k + j))) := gc0
          clear hc0 gc0
          have ti : ((i : Int) + (j : Int)).toNat = i + j := by omega
          have tk : ((k : Int) + (j : Int)).toNat = k + j := by omega
          cases h3 : (a (i + j) != b (k + j))
          · have HT : Hid (∀ t, t < j + 1 → a (i + t) = b (k + t)) := fun t ht => by
              rcases Nat.lt_or_ge t j with h | h
              · exact HS.out t h
              · obtain rfl : t = j := by omega
                simpa using h3
            clear HS
            go_wp2
            go_quiet (fail)
            go_wp2
            go_roundw
            case rel => exact ⟨j + 1, by go_num, hlt, HT, below_dn hbr⟩
            case measure => simp [intOf]; omega
          · have HE : Hid (standsB a b la lb i m k = false) := by
              show _ = _
              rw [HS0.out, List.all_eq_false]
              exact ⟨j, List.mem_range.2 hlt, by simpa using h3⟩
            clear HS
            go_wp2
            go_quiet (fail)
            go_wp2
            go_ret
            exact ⟨by rw [HE.out]; rfl, below_dn hbr⟩
        · obtain rfl : j = m := by omega
          have HE : Hid (standsB a b la lb i j k = true) := by
            show _ = _
            rw [HS0.out, List.all_eq_true]
            exact fun t ht => by have := HS.out t (List.mem_range.1 ht); simpa using this
          clear HS
          have t0 : decide ((j : Int) < (j : Int)) = false := by simp
          go_wp2
          go_ret
          exact ⟨by rw [HE.out]; rfl, hbr⟩
def RefP (qs : List Pc) (w : World) (e : Ending) (w' : World) : Prop := ∃ v' rs, e = .returned v' ∧ w'.ownsRow w.heap.size 89 3 v' rs.length (cellsP rs) ∧ rs.map Prod.fst = qs ∧ (∀ x ∈ rs, PcOk w' w.heap.size none x) ∧ Below w.heap.size w w'
theorem infoR2 : (Try.prog.info? 89).map (fun i => (i.zero, i.size, i.bytes)) = some (some (.agg #[.int .i64 0, .int .i64 0, .slice none 0 0]), 3, 40) := by kernel_rfl
theorem longF_step {a b : Nat → Int} {la lb k i q : Nat} (h1 : (longF a b la lb k i).2 ≤ q) (h2 : q = (longF a b la lb k i).2 ∨ q ≤ sameF a b la lb i k la 0) (h3 : sameF a b la lb i k la 0 ≤ q) : longF a b la lb k (i + 1) = (if q = (longF a b la lb k i).2 then (longF a b la lb k i).1 else i, q) := by
  show (if _ then _ else _) = _
  by_cases h : q = (longF a b la lb k i).2
  · rw [if_neg (by omega), if_pos h, h]
  · rw [if_pos (by omega), if_neg h, show sameF a b la lb i k la 0 = q by omega]
theorem own_form3 {w : World} {base : Nat} {e : TypeId} {v : Value} {n : Nat} {xs : List Value} (h : w.ownsRow base e 3 v n xs) (hn : 0 < n) :
    ∃ g cap, v = .slice (some ⟨g, 0, none⟩) n cap ∧ base ≤ g ∧ g < w.heap.size ∧ n ≤ cap ∧ (∀ j, j < n * 3 → w.cell? ⟨g, j, none⟩ = xs[j]?) ∧ (∀ j, w.frozen? ⟨g, j, none⟩ = false) := by
  rcases h.2 with ⟨_, h2⟩ | ⟨g, cap, cur, rfl, hb, hh, hc, _⟩
  · omega
  · exact ⟨g, cap, rfl, hb, (h.lt g rfl).2, hc, fun j hj => h.cellAt j hj, fun j => h.frozenAt j⟩
theorem cellsP_length (ps : List (Pc × Value)) : (cellsP ps).length = ps.length * 3 := by
  induction ps with
  | nil => rfl
  | cons p ps ih => show (cellsOfPc p ++ cellsP ps).length = _; rw [List.length_append, ih]; simp [cellsOfPc]; omega
theorem cellsP_last (ps : List (Pc × Value)) (x : Pc × Value) : (cellsP (ps ++ [x]))[ps.length * 3 + 2]? = some x.2 := by
  rw [cellsP_snoc, List.getElem?_append_right (by rw [cellsP_length]; omega), cellsP_length, Nat.add_sub_cancel_left]; rfl
theorem cellsP_set (ps : List (Pc × Value)) (f m : Int) (fs fs' : List Int) (v v' : Value) : (cellsP (ps ++ [((f, m, fs), v)])).set (ps.length * 3 + 2) v' = cellsP (ps ++ [((f, m, fs'), v')]) := by
  rw [cellsP_snoc, cellsP_snoc, List.set_append_right _ _ (by rw [cellsP_length]; omega), cellsP_length, Nat.add_sub_cancel_left]; rfl
/-- What a new word leaves. -/
theorem new_word {w W W4 : World} {g cg : Nat} {init : List (Pc × Value)} {fs : List Int} {v v' : Value} {x : Int} (hown : W.ownsRow w.heap.size 89 3 (.slice (some ⟨g, 0, none⟩) (init.length + 1) cg) (init.length + 1) (cellsP (init ++ [((0, 0, fs), v)])))
    (hok : ∀ y ∈ init, PcOk W w.heap.size none y) (hb : Below w.heap.size w W) (h4 : Below W.heap.size W W4) (hr : W4.ownsRow W.heap.size 72 1 v' (fs.length + 1) (vu fs ++ [.int .u32 x])) :
    (W4.setCell ⟨g, init.length * 3 + 2, none⟩ v').ownsRow w.heap.size 89 3 (.slice (some ⟨g, 0, none⟩) (init.length + 1) cg) (init.length + 1) (cellsP (init ++ [((0, 0, fs ++ [x]), v')])) ∧
      (∀ y ∈ init ++ [((0, 0, fs ++ [x]), v')], PcOk (W4.setCell ⟨g, init.length * 3 + 2, none⟩ v') w.heap.size none y) ∧ Below w.heap.size w (W4.setCell ⟨g, init.length * 3 + 2, none⟩ v') := by
  have hS4 := Save.of_below h4 fun _ => False
  have hown4 := own_saveN hown hS4 fun _ _ => id
  have hst := hown4.stored (init.length * 3 + 2) v'
  rw [cellsP_set init 0 0 fs (fs ++ [x]) v v'] at hst
  have hgl := hown.lt g rfl
  have hSs := Save.set W4 g (init.length * 3 + 2) v'
  have hr' : W4.ownsRow w.heap.size 72 1 v' (fs ++ [x]).length (vu (fs ++ [x])) := by
    rw [List.length_append, vu_append]
    exact ⟨hr.1, hr.2.elim .inl fun ⟨g, cap, cur, h1, h2, h3⟩ => .inr ⟨g, cap, cur, h1, Nat.le_trans hb.size h2, h3⟩⟩
  refine ⟨hst.1, fun y hy => ?_, hSs.below (hb.trans (h4.mono hb.size)) (Nat.le_trans hb.size h4.size) fun k hk => by rw [hk]; exact hgl.1⟩
  rcases List.mem_append.1 hy with hy | hy
  · exact ((hok y hy).save (no' := none) hS4 fun _ _ _ _ => ⟨id, fun e => by cases e⟩).save hSs fun g' hg' hr _ => ⟨fun e => own_ne hr hown4 (by decide) g' hg' (by rw [e]; rfl), fun e => by cases e⟩
  · obtain rfl : y = ((0, 0, fs ++ [x]), v') := by simpa using hy
    refine .inr ⟨by simp, own_saveN hr' hSs fun g' hg' e => own_ne hr' hown4 (by decide) g' hg' (by rw [e]; rfl), own_none hr (by omega)⟩
theorem map_snoc {rs : List (Pc × Value)} {l : List Pc} {p : Pc} (h : rs.map Prod.fst = l ++ [p]) : ∃ init v, rs = init ++ [(p, v)] ∧ init.map Prod.fst = l := by
  obtain ⟨l1, l2, rfl, h1, h2⟩ := List.map_eq_append_iff.1 h
  match l2, h2 with
  | [(q, v)], h2 =>
    have : q = p := by simpa using h2
    subst this
    exact ⟨l1, v, rfl, h1⟩
attribute [local go_sem] stillAt
set_option maxRecDepth 100000 in
set_option maxHeartbeats 600000 in
theorem refMake_any (ao bo : Option Addr) (la lb ca cb : Nat) (a b : Nat → Int) (w : World) (ha : Row w ao la (fun j => .int .u32 (a j))) (hb : Row w bo lb (fun j => .int .u32 (b j))) (hla : la ≤ 4096) (hlb : lb ≤ 4096) :
    Calls Try.prog 46 #[.slice ao la ca, .slice bo lb cb] w fun e w' => RefP (makeF a b la lb lb 0 [] []) w e w' := by
  obtain ⟨i0, hi, hz0, hz1, hz2⟩ := info_parts infoU
  obtain ⟨o0, ho, hy0, hy1, hy2⟩ := info_parts infoR2
  have HST : Hid (∀ i q k W, i ≤ 5000 → q ≤ 5000 → k ≤ 5000 → Below w.heap.size w W → Calls Try.prog 59 #[.slice ao la ca, .slice bo lb cb, .int .i64 (i : Nat), .int .i64 ((q : Nat) + 1 : Int), .int .i64 (k : Nat)] W fun e w' => e = .returned (.bool (decide (q + 1 ≤ sameF a b la lb i k la 0))) ∧ Below W.heap.size W w') := fun i q k W h1 h2 h3 hW => by
    have := stands_any ao bo la lb ca cb a b i (q + 1) k W (ha.below hW) (hb.below hW) (by omega) (by omega) h1 (by omega) h3
    rw [stands_same (Nat.succ_pos q), show ((q + 1 : Nat) : Int) = (q : Int) + 1 by omega] at this
    exact this
  go_enter Try.func46, Try.ntmps46
  go_wp2
  go_loopw [5, 6, 7, 8, 9, 10] (fun out at_ _ _ _ _ wr => ∃ (k m : Nat) (ps : List Pc) (fs : List Int) (rs : List (Pc × Value)), at_ = .int .i64 k ∧ k ≤ lb ∧ lb ≤ k + m ∧ rs.length ≤ 2 * k ∧ fs.length ≤ k ∧ Hid (makeF a b la lb lb 0 [] [] = makeF a b la lb m k ps fs) ∧ Hid (rs.map Prod.fst = flushF ps fs) ∧ Hid (∀ p, ps.getLast? = some p → p.2.2 = []) ∧ wr.ownsRow w.heap.size 89 3 out rs.length (cellsP rs) ∧ (∀ x ∈ rs, PcOk wr w.heap.size none x) ∧ Below w.heap.size w wr) (fun _ at_ _ _ _ _ _ => lb - (intOf at_).toNat)
  case atStart => exact ⟨0, lb, [], [], [], rfl, Nat.zero_le _, by omega, Nat.zero_le _, Nat.zero_le _, rfl, rfl, fun p h => (by cases h), World.ownsRow_nil _ _ _ _, fun x hx => (by cases hx), Below.refl _ _⟩
  case round =>
    obtain ⟨k, m, ps, fs, rs, rfl, hk, hm, hrl, hfl, HO, HM, HLP, hown, hok, hbr⟩ := hrel
    rcases Nat.lt_or_ge k lb with hlt | hge
    · have t0 : decide ((k : Int) < (lb : Int)) = true := by simp; omega
      go_wp2
      go_loopw [7, 8, 9] (fun f_ q_ i_ wx => ∃ i : Nat, i_ = .int .i64 i ∧ i ≤ la ∧ f_ = .int .i64 (longF a b la lb k i).1 ∧ q_ = .int .i64 (longF a b la lb k i).2 ∧ Below wr.heap.size wr wx) (fun _ _ i_ _ => la - (intOf i_).toNat)
      case atStart => exact ⟨0, rfl, Nat.zero_le _, rfl, rfl, Below.refl _ _⟩
      case round =>
        obtain ⟨i, rfl, hil, rfl, rfl, hbi⟩ := hrel
        rcases Nat.lt_or_ge i la with hlt2 | hge2
        · have t1 : decide ((i : Int) < (la : Int)) = true := by simp; omega
          have HL := hid (fun q h1 h2 h3 => longF_step (a := a) (b := b) (la := la) (lb := lb) (k := k) (i := i) (q := q) h1 h2 h3)
          have hms : (longF a b la lb k i).2 ≤ 5000 := by
            rcases Nat.eq_zero_or_pos (longF a b la lb k i).2 with h | h
            · omega
            · have := longF_spec (a := a) (b := b) (la := la) (lb := lb) (k := k) i _ (Nat.sub_lt h Nat.one_pos)
              omega
          have hsl : sameF a b la lb i k la 0 ≤ 4999 := by
            rcases sameF_bound (a := a) (b := b) (la := la) (lb := lb) (i := i) (k := k) la 0 (.inr rfl) with h | h <;> omega
          have HSI := hid (fun q W h2 hW => HST.out i q k W (by omega) h2 (by omega) hW)
          obtain ⟨⟨f0, m0⟩, hfm⟩ : ∃ y, longF a b la lb k i = y := ⟨_, rfl⟩
          rw [hfm] at HL hms ⊢
          clear hfm
          obtain ⟨s, hs⟩ : ∃ s, sameF a b la lb i k la 0 = s := ⟨_, rfl⟩
          rw [hs] at HL HSI hsl
          clear hs
          dsimp only at hms
          go_wp2
          go_loopw [7, 8] (fun f_ q_ wx => ∃ q y : Nat, q_ = .int .i64 q ∧ m0 ≤ q ∧ Hid (q = m0 ∨ q ≤ s) ∧ f_ = .int .i64 y ∧ Hid (y = if q = m0 then f0 else i) ∧ Below wr.heap.size wr wx) (fun _ q_ _ => s - (intOf q_).toNat)
          case atStart => exact ⟨m0, f0, rfl, Nat.le_refl _, Or.inl rfl, rfl, (if_pos rfl).symm, Below.refl _ _⟩
          case round =>
            obtain ⟨q, y, rfl, hmq, HQS, rfl, HY, hbq⟩ := hrel
            have hq5 : q ≤ 5000 := by have := HQS.out; omega
            have hbz := (hbr.trans (hbi.mono hbr.size)).trans (hbq.mono (hbr.trans (hbi.mono hbr.size)).size)
            have HC := hid (HSI.out q wr (by omega) hbz)
            by_cases hq : q + 1 ≤ s
            · rw [decide_eq_true hq] at HC
              have HI : Hid (i = if q + 1 = m0 then f0 else i) := (if_neg (by omega)).symm
              clear HY HQS
              go_wp2_with fail
              refine HC.out.mono ?_
              rintro e w1 ⟨rfl, hb1⟩
              clear HC
              go_wp2
              go_roundw
              case rel => exact ⟨q + 1, i, by go_num, by omega, Or.inr hq, rfl, HI, hbq.trans (hb1.mono hbq.size)⟩
              case measure => simp [intOf]; omega
            · rw [decide_eq_false hq] at HC
              have HLy : Hid (longF a b la lb k (i + 1) = (y, q)) := by
                show _ = _
                rw [HL.out q hmq HQS.out (by omega), HY.out]
              clear HL HY HQS
              go_wp2_with fail
              refine HC.out.mono ?_
              rintro e w1 ⟨rfl, hb1⟩
              clear HC
              go_wp2
              go_roundw
              case rel => exact ⟨i + 1, by go_num, hlt2, by rw [HLy.out], by rw [HLy.out], (hbi.trans (hbq.mono hbi.size)).trans (hb1.mono (hbi.trans (hbq.mono hbi.size)).size)⟩
              case measure => simp [intOf]; omega
        · obtain rfl : i = la := by omega
          have t1 : decide ((i : Int) < (i : Int)) = false := by simp
          have b1 := hbr.trans (hbi.mono hbr.size)
          have hS1 := Save.of_below hbi fun _ => False
          have hown1 := own_saveN hown hS1 fun _ _ => id
          have hok1 : ∀ x ∈ rs, PcOk wr w.heap.size none x := fun x hx => (hok x hx).save hS1 fun g hg _ _ => ⟨id, fun e => by cases e⟩
          have hsz := hid b1.size
          clear hown hok HST
          by_cases h4 : (longF a b i lb k i).2 < 4
          · have HN := hid (HO.out.trans (makeF_new hm hlt h4))
            clear HO
            obtain ⟨⟨r, q⟩, hr⟩ : ∃ y, longF a b i lb k i = y := ⟨_, rfl⟩
            rw [hr] at h4 ⊢
            clear hr
            have h4' : q < 4 := h4
            have d3 : decide ((4 : Int) ≤ (q : Int)) = false := by simp; omega
            clear h4
            obtain ⟨pb, po, rfl, _⟩ := hb k hlt
            have hxw : w.cell? ⟨pb, po + k, none⟩ = some (.int .u32 (b k)) := hb.cellAt hlt
            obtain ⟨x, hx⟩ : ∃ x, b k = x := ⟨_, rfl⟩
            rw [hx] at HN hxw
            clear hx
            have hxr := (b1.cell (cell_lt hxw)).trans hxw
            rcases Nat.eq_zero_or_pos fs.length with h0 | h0
            · obtain rfl : fs = [] := List.eq_nil_of_length_eq_zero h0
              have HMF := HM.out
              rw [show flushF ps [] = ps from if_pos rfl] at HMF
              rcases List.eq_nil_or_concat rs with rfl | ⟨init0, x0, hrs⟩
              · obtain ⟨oa, oc, rfl⟩ : ∃ oa oc, u5 = .slice oa 0 oc := by
                  rcases hown1.2 with ⟨h, _⟩ | ⟨g, cap, _, h, _⟩
                  · exact ⟨_, _, h⟩
                  · exact ⟨_, _, h⟩
                have HI := hid HMF
                clear HM HMF
                have r0 := hown1.alloc (Obj.cells #[.int .i64 0, .int .i64 0, .slice none 0 0] 89)
                have hnews : ∀ (j : Nat) (u : Value), [Value.int .i64 0, .int .i64 0, .slice none 0 0][j]? = some u → (wr.alloc (Obj.cells #[.int .i64 0, .int .i64 0, .slice none 0 0] 89)).cell? ((⟨wr.heap.size, 0, none⟩ : Addr).add j) = some u := fun j u hj => by
                  rw [add_off, Nat.zero_add, World.cell?_alloc_at _ _ _ _ rfl]; simpa using hj
                go_wp2_with (at_builtin; refine wpList_append_own _ rfl _ _ 85 rfl w.heap.size 89 o0 (.agg #[.int .i64 0, .int .i64 0, .slice none 0 0]) 3 40 Try.underlying85 ho hy0 hy1 hy2 rfl (by decide) (.slice oa 0 oc) 0 (cellsP []) rfl r0 ⟨wr.heap.size, 0, none⟩ 1 1 _ rfl (by simp) hnews (by simp [Value.oneCell']) (by unfold maxLen; omega) (by omega) (by have := hsz.out; rw [World.size_alloc]; omega) ?_; intro v6 w6 hown6 hgrow6 _; obtain ⟨g, cg, rfl, _, _, _, hgc, hgf⟩ := own_form3 hown6 (by omega))
                have hS6 := ((Save.alloc wr (Obj.cells #[.int .i64 0, .int .i64 0, .slice none 0 0] 89)).mono (S' := fun k => (Value.slice oa 0 oc).ownBlock = some k) fun _ h => h.elim).trans (Save.of_grown hgrow6) fun _ _ h => h
                have b6 : Below w.heap.size w w6 := (b1.alloc hsz.out _).grown hgrow6 (by have := hsz.out; rw [World.size_alloc]; omega) fun j hj => (hown1.lt j hj).1
                have hoki : ∀ y ∈ ([] : List (Pc × Value)), PcOk w6 w.heap.size none y := fun y hy => (hok1 y hy).save (no' := none) hS6 fun g hg hr _ => ⟨fun e => own_ne hr hown1 (by decide) g hg e, fun e => by cases e⟩
                have hown7 : w6.ownsRow w.heap.size 89 3 (.slice (some ⟨g, 0, none⟩) (0 + 1) cg) (0 + 1) (cellsP (([] : List (Pc × Value)) ++ [((0, 0, []), .slice none 0 0)])) := by rw [cellsP_snoc]; exact hown6
                have HNW := hid (fun W4 v' h4 hr => new_word (w := w) (W4 := W4) (v' := v') (x := x) (fs := []) (hown7) hoki b6 h4 hr)
                have hxr6 := (b6.cell (cell_lt hxw)).trans hxw
                have cN : w6.cell? ⟨g, 2, none⟩ = some (.slice none 0 0) := (hown7.cellAt 2 (by simp)).trans rfl
                have HLL : Hid (([] : List (Pc × Value)).length = 0) := rfl
                have hown1 := hown7
                clear hgc hgf
                refine wp_region_free [2, 8, 13, 14, 15, 16, 17] (fun W => Below w6.heap.size w6 W) (by kernel_rfl) (by kernel_rfl) (below_dn (k := 1) (Below.refl _ _)) ?_
                repeat (first | refine wpFl_chain (by rfl) ?_ | (refine wpFl_still (by rfl) (by rfl) (fun K hK => ?_); go_simp; (refine ⟨_, fun _ _ => rfl, hK _ ?_⟩; clear hK K)))
                refine wpFl_still (by rfl) (by rfl) (fun K hK => ?_)
                go_simp
                refine ⟨.slice none 0 0, fun W hW => by rw [(hW.cell (cell_lt cN)).trans cN]; rfl, hK _ ?_⟩
                clear hK K
                repeat (first | refine wpFl_chain (by rfl) ?_ | (refine wpFl_still (by rfl) (by rfl) (fun K hK => ?_); go_simp; (refine ⟨_, fun _ _ => rfl, hK _ ?_⟩; clear hK K)))
                refine wpFl_still (by rfl) (by rfl) (fun K hK => ?_)
                go_simp
                refine ⟨.int .u32 x, fun W hW => by rw [(hW.cell (cell_lt hxr6)).trans hxr6]; rfl, hK _ ?_⟩
                clear hK K
                repeat refine wpFl_chain (by rfl) ?_
                refine wpFl_nil ?_
                show wpTs _ _ _ _ 7 _ _ _
                refine wpTs_2 (i := 2) (j := 13) (rem1 := [8, 13, 14, 15, 16, 17]) (rem2 := [2, 8, 14, 15, 16, 17]) (by kernel_rfl) (by rfl) (by rfl) (by rfl) (by rfl) (fun K hK => ?_) (fun K hK => ?_)
                · go_wp2_with fail
                  refine hK _ _ (below_dn (k := 1) ((Below.refl w6.heap.size w6).alloc (Below.refl w6.heap.size w6).size _)) ?_
                  clear hK K
                  obtain ⟨X1, hX⟩ : ∃ X, X = (w6.alloc (Obj.cells #[] 72)).drew := ⟨_, rfl⟩
                  have bx1 : Below w6.heap.size w6 X1 := by rw [hX]; exact below_dn (k := 1) ((Below.refl w6.heap.size w6).alloc (Below.refl w6.heap.size w6).size _)
                  have hs1 : Hid (X1.heap.size = w6.heap.size + 1) := by rw [hX]; exact World.size_alloc w6 _
                  have eo1 : X1.ownsRow w6.heap.size 72 1 (.slice (some ⟨w6.heap.size, 0, none⟩) 0 0) 0 [] := by rw [hX]; exact World.ownsRow_made (w := w6) #[] 0 (Below.refl w6.heap.size w6).size (Nat.zero_le _) rfl
                  rw [← hX]
                  clear hX
                  refine wpTs_2 (i := 8) (j := 13) (rem1 := [13, 14, 15, 16, 17]) (rem2 := [8, 14, 15, 16, 17]) (by kernel_rfl) (by rfl) (by rfl) (by rfl) (by rfl) (fun K hK => ?_) (fun K hK => ?_)
                  · refine wpList_append_own_none rfl _ _ 71 rfl w6.heap.size 72 i0 1 Try.underlying71 hi (.slice (some ⟨w6.heap.size, 0, none⟩) 0 0) 0 [] rfl eo1 rfl ?_
                    refine hK _ _ bx1 ?_
                    go_simp
                    clear hK K
                    refine wpTs_1 (i := 13) (rem1 := [14, 15, 16, 17]) (by kernel_rfl) (by rfl) (by rfl) (fun K hK => ?_)
                    go_wp2_with fail
                    refine hK _ _ (bx1.alloc bx1.size _) ?_
                    clear hK K
                    obtain ⟨X3, hX⟩ : ∃ X, X = (X1.alloc (Obj.cells #[Value.int .u32 x] 72)) := ⟨_, rfl⟩
                    have bx3 : Below w6.heap.size w6 X3 := by rw [hX]; exact bx1.alloc bx1.size _
                    have hs3 : Hid (X3.heap.size = X1.heap.size + 1) := by rw [hX]; exact World.size_alloc X1 _
                    have cx3 : X3.cell? ⟨X1.heap.size, 0, none⟩ = some (.int .u32 x) := by rw [hX]; show (X1.alloc _).cell? _ = _; exact World.cell?_alloc_at _ _ _ _ rfl
                    have h8_3 := eo1.alloc (Obj.cells #[Value.int .u32 x] 72)
                    rw [show X1.alloc (Obj.cells #[Value.int .u32 x] 72) = X3 from hX.symm] at h8_3
                    rw [← hX]
                    clear hX
                    refine wpTs_1 (i := 14) (rem1 := [15, 16, 17]) (by kernel_rfl) (by rfl) (by rfl) (fun K hK => ?_)
                    have hnx : ∀ (j : Nat) (u : Value), [Value.int .u32 x][j]? = some u → X3.cell? ((⟨X1.heap.size, 0, none⟩ : Addr).add j) = some u := fun j u hj => by
                      match j, hj with
                      | 0, hj => simp at hj; subst hj; rw [add_off]; exact cx3
                      | j + 1, hj => simp at hj
                    refine wpList_append_own _ rfl _ _ 71 rfl w6.heap.size 72 i0 (.int .u32 0) 1 4 Try.underlying71 hi hz0 hz1 hz2 rfl (by decide) (.slice (some ⟨w6.heap.size, 0, none⟩) 0 0) 0 [] rfl h8_3 ⟨X1.heap.size, 0, none⟩ 1 1 _ rfl rfl hnx (by simp [Value.oneCell']) (by unfold maxLen; omega) (by omega) bx3.size ?_
                    intro v14 X4 h14 hgrow4 _
                    obtain ⟨g14, c14, rfl, _, _, _, _, _⟩ := own_form h14 (by omega)
                    have bx4 := bx3.grown hgrow4 bx3.size fun j hj => (h8_3.lt j hj).1
                    refine hK _ _ bx4 ?_
                    go_simp
                    clear hK K
                    refine wpTs_1 (i := 15) (rem1 := [16, 17]) (by kernel_rfl) (by rfl) (by rfl) (fun K hK => ?_)
                    go_wp2_with fail
                    refine hK _ _ bx4 ?_
                    clear hK K
                    refine wpTs_1 (i := 16) (rem1 := [17]) (by kernel_rfl) (by rfl) (by rfl) (fun K hK => ?_)
                    go_wp2_with fail
                    refine hK _ _ bx4 ?_
                    clear hK K
                    refine wpTs_last (i := 17) (rem1 := []) (by kernel_rfl) (by rfl) (by rfl) (by kernel_rfl) (fun K hK => ?_)
                    have cS := (bx4.cell (cell_lt cN)).trans cN
                    have fS := (own_saveN hown1 (Save.of_below bx4 fun _ => False) fun _ _ => id).frozenAt (2)
                    have HF := hid (HNW.out X4 _ bx4 h14)
                    go_wp2_with fail
                    refine wpTs_0 ?_
                    go_wp2
                    go_roundw
                    case rel => exact ⟨k + 1, m - 1, ps, [x], ([] : List (Pc × Value)) ++ [((0, 0, [x]), .slice (some ⟨g14, 0, none⟩) (0 + 1) c14)], by go_num, hlt, by omega, by rw [List.length_append, HLL.out]; show _ + 1 ≤ _; omega, by simp, HN.out, by show _ = _; rw [List.map_append, HI.out]; unfold flushF; rw [if_neg (by simp)]; rfl, HLP.out, by rw [List.length_append, HLL.out]; exact HF.out.1, HF.out.2.1, HF.out.2.2⟩
                    case measure => simp [intOf]; omega
                  · go_wp2_with fail
                    refine hK _ _ (bx1.alloc bx1.size _) ?_
                    clear hK K
                    obtain ⟨X2, hX⟩ : ∃ X, X = (X1.alloc (Obj.cells #[Value.int .u32 x] 72)) := ⟨_, rfl⟩
                    have bx2 : Below w6.heap.size w6 X2 := by rw [hX]; exact bx1.alloc bx1.size _
                    have hs2 : Hid (X2.heap.size = X1.heap.size + 1) := by rw [hX]; exact World.size_alloc X1 _
                    have cx2 : X2.cell? ⟨X1.heap.size, 0, none⟩ = some (.int .u32 x) := by rw [hX]; show (X1.alloc _).cell? _ = _; exact World.cell?_alloc_at _ _ _ _ rfl
                    have eo2 := eo1.alloc (Obj.cells #[Value.int .u32 x] 72)
                    rw [show X1.alloc (Obj.cells #[Value.int .u32 x] 72) = X2 from hX.symm] at eo2
                    rw [← hX]
                    clear hX
                    refine wpTs_1 (i := 8) (rem1 := [14, 15, 16, 17]) (by kernel_rfl) (by rfl) (by rfl) (fun K hK => ?_)
                    refine wpList_append_own_none rfl _ _ 71 rfl w6.heap.size 72 i0 1 Try.underlying71 hi (.slice (some ⟨w6.heap.size, 0, none⟩) 0 0) 0 [] rfl eo2 rfl ?_
                    refine hK _ _ bx2 ?_
                    go_simp
                    clear hK K
                    refine wpTs_1 (i := 14) (rem1 := [15, 16, 17]) (by kernel_rfl) (by rfl) (by rfl) (fun K hK => ?_)
                    have hnx : ∀ (j : Nat) (u : Value), [Value.int .u32 x][j]? = some u → X2.cell? ((⟨X1.heap.size, 0, none⟩ : Addr).add j) = some u := fun j u hj => by
                      match j, hj with
                      | 0, hj => simp at hj; subst hj; rw [add_off]; exact cx2
                      | j + 1, hj => simp at hj
                    refine wpList_append_own _ rfl _ _ 71 rfl w6.heap.size 72 i0 (.int .u32 0) 1 4 Try.underlying71 hi hz0 hz1 hz2 rfl (by decide) (.slice (some ⟨w6.heap.size, 0, none⟩) 0 0) 0 [] rfl eo2 ⟨X1.heap.size, 0, none⟩ 1 1 _ rfl rfl hnx (by simp [Value.oneCell']) (by unfold maxLen; omega) (by omega) bx2.size ?_
                    intro v14 X4 h14 hgrow4 _
                    obtain ⟨g14, c14, rfl, _, _, _, _, _⟩ := own_form h14 (by omega)
                    have bx4 := bx2.grown hgrow4 bx2.size fun j hj => (eo2.lt j hj).1
                    refine hK _ _ bx4 ?_
                    go_simp
                    clear hK K
                    refine wpTs_1 (i := 15) (rem1 := [16, 17]) (by kernel_rfl) (by rfl) (by rfl) (fun K hK => ?_)
                    go_wp2_with fail
                    refine hK _ _ bx4 ?_
                    clear hK K
                    refine wpTs_1 (i := 16) (rem1 := [17]) (by kernel_rfl) (by rfl) (by rfl) (fun K hK => ?_)
                    go_wp2_with fail
                    refine hK _ _ bx4 ?_
                    clear hK K
                    refine wpTs_last (i := 17) (rem1 := []) (by kernel_rfl) (by rfl) (by rfl) (by kernel_rfl) (fun K hK => ?_)
                    have cS := (bx4.cell (cell_lt cN)).trans cN
                    have fS := (own_saveN hown1 (Save.of_below bx4 fun _ => False) fun _ _ => id).frozenAt (2)
                    have HF := hid (HNW.out X4 _ bx4 h14)
                    go_wp2_with fail
                    refine wpTs_0 ?_
                    go_wp2
                    go_roundw
                    case rel => exact ⟨k + 1, m - 1, ps, [x], ([] : List (Pc × Value)) ++ [((0, 0, [x]), .slice (some ⟨g14, 0, none⟩) (0 + 1) c14)], by go_num, hlt, by omega, by rw [List.length_append, HLL.out]; show _ + 1 ≤ _; omega, by simp, HN.out, by show _ = _; rw [List.map_append, HI.out]; unfold flushF; rw [if_neg (by simp)]; rfl, HLP.out, by rw [List.length_append, HLL.out]; exact HF.out.1, HF.out.2.1, HF.out.2.2⟩
                    case measure => simp [intOf]; omega
                · go_wp2_with fail
                  refine hK _ _ (below_dn (k := 1) ((Below.refl w6.heap.size w6).alloc (Below.refl w6.heap.size w6).size _)) ?_
                  clear hK K
                  obtain ⟨X1, hX⟩ : ∃ X, X = (w6.alloc (Obj.cells #[Value.int .u32 x] 72)).drew := ⟨_, rfl⟩
                  have bx1 : Below w6.heap.size w6 X1 := by rw [hX]; exact below_dn (k := 1) ((Below.refl w6.heap.size w6).alloc (Below.refl w6.heap.size w6).size _)
                  have hs1 : Hid (X1.heap.size = w6.heap.size + 1) := by rw [hX]; exact World.size_alloc w6 _
                  have cx1 : X1.cell? ⟨w6.heap.size, 0, none⟩ = some (.int .u32 x) := by rw [hX]; show (w6.alloc _).cell? _ = _; exact World.cell?_alloc_at _ _ _ _ rfl
                  rw [← hX]
                  clear hX
                  refine wpTs_1 (i := 2) (rem1 := [8, 14, 15, 16, 17]) (by kernel_rfl) (by rfl) (by rfl) (fun K hK => ?_)
                  go_wp2_with fail
                  refine hK _ _ (bx1.alloc bx1.size _) ?_
                  clear hK K
                  obtain ⟨X2, hX⟩ : ∃ X, X = (X1.alloc (Obj.cells #[] 72)) := ⟨_, rfl⟩
                  have bx2 : Below w6.heap.size w6 X2 := by rw [hX]; exact bx1.alloc bx1.size _
                  have hs2 : Hid (X2.heap.size = X1.heap.size + 1) := by rw [hX]; exact World.size_alloc X1 _
                  have eo2 : X2.ownsRow w6.heap.size 72 1 (.slice (some ⟨X1.heap.size, 0, none⟩) 0 0) 0 [] := by rw [hX]; exact World.ownsRow_made (w := X1) #[] 0 bx1.size (Nat.zero_le _) rfl
                  have cx2 : X2.cell? ⟨w6.heap.size, 0, none⟩ = some (.int .u32 x) := by rw [hX]; exact cell_alloc cx1 _
                  rw [← hX]
                  clear hX
                  refine wpTs_1 (i := 8) (rem1 := [14, 15, 16, 17]) (by kernel_rfl) (by rfl) (by rfl) (fun K hK => ?_)
                  refine wpList_append_own_none rfl _ _ 71 rfl w6.heap.size 72 i0 1 Try.underlying71 hi (.slice (some ⟨X1.heap.size, 0, none⟩) 0 0) 0 [] rfl eo2 rfl ?_
                  refine hK _ _ bx2 ?_
                  go_simp
                  clear hK K
                  refine wpTs_1 (i := 14) (rem1 := [15, 16, 17]) (by kernel_rfl) (by rfl) (by rfl) (fun K hK => ?_)
                  have hnx : ∀ (j : Nat) (u : Value), [Value.int .u32 x][j]? = some u → X2.cell? ((⟨w6.heap.size, 0, none⟩ : Addr).add j) = some u := fun j u hj => by
                    match j, hj with
                    | 0, hj => simp at hj; subst hj; rw [add_off]; exact cx2
                    | j + 1, hj => simp at hj
                  refine wpList_append_own _ rfl _ _ 71 rfl w6.heap.size 72 i0 (.int .u32 0) 1 4 Try.underlying71 hi hz0 hz1 hz2 rfl (by decide) (.slice (some ⟨X1.heap.size, 0, none⟩) 0 0) 0 [] rfl eo2 ⟨w6.heap.size, 0, none⟩ 1 1 _ rfl rfl hnx (by simp [Value.oneCell']) (by unfold maxLen; omega) (by omega) bx2.size ?_
                  intro v14 X4 h14 hgrow4 _
                  obtain ⟨g14, c14, rfl, _, _, _, _, _⟩ := own_form h14 (by omega)
                  have bx4 := bx2.grown hgrow4 bx2.size fun j hj => (eo2.lt j hj).1
                  refine hK _ _ bx4 ?_
                  go_simp
                  clear hK K
                  refine wpTs_1 (i := 15) (rem1 := [16, 17]) (by kernel_rfl) (by rfl) (by rfl) (fun K hK => ?_)
                  go_wp2_with fail
                  refine hK _ _ bx4 ?_
                  clear hK K
                  refine wpTs_1 (i := 16) (rem1 := [17]) (by kernel_rfl) (by rfl) (by rfl) (fun K hK => ?_)
                  go_wp2_with fail
                  refine hK _ _ bx4 ?_
                  clear hK K
                  refine wpTs_last (i := 17) (rem1 := []) (by kernel_rfl) (by rfl) (by rfl) (by kernel_rfl) (fun K hK => ?_)
                  have cS := (bx4.cell (cell_lt cN)).trans cN
                  have fS := (own_saveN hown1 (Save.of_below bx4 fun _ => False) fun _ _ => id).frozenAt (2)
                  have HF := hid (HNW.out X4 _ bx4 h14)
                  go_wp2_with fail
                  refine wpTs_0 ?_
                  go_wp2
                  go_roundw
                  case rel => exact ⟨k + 1, m - 1, ps, [x], ([] : List (Pc × Value)) ++ [((0, 0, [x]), .slice (some ⟨g14, 0, none⟩) (0 + 1) c14)], by go_num, hlt, by omega, by rw [List.length_append, HLL.out]; show _ + 1 ≤ _; omega, by simp, HN.out, by show _ = _; rw [List.map_append, HI.out]; unfold flushF; rw [if_neg (by simp)]; rfl, HLP.out, by rw [List.length_append, HLL.out]; exact HF.out.1, HF.out.2.1, HF.out.2.2⟩
                  case measure => simp [intOf]; omega
              · obtain rfl : rs = init0 ++ [x0] := by rw [hrs, List.concat_eq_append]
                have hx0 : x0.1.2.2 = [] := HLP.out _ (by rw [← HMF, List.map_append]; simp)
                have hx2 : x0.2 = .slice none 0 0 := by
                  rcases hok1 x0 (by simp) with h | h
                  · exact h.2
                  · rw [hx0] at h; exact absurd h.1 (Nat.lt_irrefl 0)
                obtain ⟨M, hM⟩ : ∃ M, init0.length = M := ⟨_, rfl⟩
                have hlen : (init0 ++ [x0]).length = M + 1 := by rw [List.length_append, hM]; rfl
                rw [hlen] at hown1 hrl
                obtain ⟨g0, cg0, rfl, _, _, _, hgc0, _⟩ := own_form3 hown1 (by omega)
                have c0N : wr.cell? ⟨g0, M * 3 + 2, none⟩ = some (.slice none 0 0) := by
                  rw [hgc0 _ (by omega), ← hM, cellsP_last, hx2]
                have HI := hid HMF
                have HLL := hid hlen
                have t5 : decide ((M : Int) < 0) = false := by simp
                clear HM HMF hM hlen hrs hx0 hx2 hgc0
                have r0 := hown1.alloc (Obj.cells #[.int .i64 0, .int .i64 0, .slice none 0 0] 89)
                have hnews : ∀ (j : Nat) (u : Value), [Value.int .i64 0, .int .i64 0, .slice none 0 0][j]? = some u → (wr.alloc (Obj.cells #[.int .i64 0, .int .i64 0, .slice none 0 0] 89)).cell? ((⟨wr.heap.size, 0, none⟩ : Addr).add j) = some u := fun j u hj => by
                  rw [add_off, Nat.zero_add, World.cell?_alloc_at _ _ _ _ rfl]; simpa using hj
                go_wp2_with (at_builtin; refine wpList_append_own _ rfl _ _ 85 rfl w.heap.size 89 o0 (.agg #[.int .i64 0, .int .i64 0, .slice none 0 0]) 3 40 Try.underlying85 ho hy0 hy1 hy2 rfl (by decide) (.slice (some ⟨g0, 0, none⟩) (M + 1) cg0) (M + 1) (cellsP (init0 ++ [x0])) rfl r0 ⟨wr.heap.size, 0, none⟩ 1 1 _ rfl (by simp) hnews (by simp [Value.oneCell']) (by unfold maxLen; omega) (by omega) (by have := hsz.out; rw [World.size_alloc]; omega) ?_; intro v6 w6 hown6 hgrow6 _; obtain ⟨g, cg, rfl, _, _, _, hgc, hgf⟩ := own_form3 hown6 (by omega))
                have hS6 := ((Save.alloc wr (Obj.cells #[.int .i64 0, .int .i64 0, .slice none 0 0] 89)).mono (S' := fun k => (Value.slice (some ⟨g0, 0, none⟩) (M + 1) cg0).ownBlock = some k) fun _ h => h.elim).trans (Save.of_grown hgrow6) fun _ _ h => h
                have b6 : Below w.heap.size w w6 := (b1.alloc hsz.out _).grown hgrow6 (by have := hsz.out; rw [World.size_alloc]; omega) fun j hj => (hown1.lt j hj).1
                have hoki : ∀ y ∈ (init0 ++ [x0]), PcOk w6 w.heap.size none y := fun y hy => (hok1 y hy).save (no' := none) hS6 fun g hg hr _ => ⟨fun e => own_ne hr hown1 (by decide) g hg e, fun e => by cases e⟩
                have hown7 : w6.ownsRow w.heap.size 89 3 (.slice (some ⟨g, 0, none⟩) (M + 1 + 1) cg) (M + 1 + 1) (cellsP ((init0 ++ [x0]) ++ [((0, 0, []), .slice none 0 0)])) := by rw [cellsP_snoc (init0 ++ [x0])]; exact hown6
                have HNW := hid (fun W4 v' h4 hr => new_word (w := w) (W4 := W4) (v' := v') (x := x) (fs := []) (by rw [HLL.out]; exact hown7) hoki b6 h4 hr)
                have hxr6 := (b6.cell (cell_lt hxw)).trans hxw
                rw [HLL.out] at HNW
                have cN : w6.cell? ⟨g, (M + 1) * 3 + 2, none⟩ = some (.slice none 0 0) := by
                  rw [hown7.cellAt _ (by omega), ← HLL.out, cellsP_last]
                have hown1 := hown7
                clear hgc hgf
                refine wp_region_free [2, 8, 13, 14, 15, 16, 17] (fun W => Below w6.heap.size w6 W) (by kernel_rfl) (by kernel_rfl) (below_dn (k := 1) (Below.refl _ _)) ?_
                repeat (first | refine wpFl_chain (by rfl) ?_ | (refine wpFl_still (by rfl) (by rfl) (fun K hK => ?_); go_simp; (refine ⟨_, fun _ _ => rfl, hK _ ?_⟩; clear hK K)))
                refine wpFl_still (by rfl) (by rfl) (fun K hK => ?_)
                go_simp
                refine ⟨.pointer (some ⟨g, (M + 1) * 3, none⟩), fun W _ => by rw [if_pos (by omega)], hK _ ?_⟩
                clear hK K
                refine wpFl_still (by rfl) (by rfl) (fun K hK => ?_)
                go_simp
                refine ⟨_, fun _ _ => rfl, hK _ ?_⟩
                clear hK K
                refine wpFl_still (by rfl) (by rfl) (fun K hK => ?_)
                go_simp
                refine ⟨.slice none 0 0, fun W hW => by rw [(hW.cell (cell_lt cN)).trans cN]; rfl, hK _ ?_⟩
                clear hK K
                repeat (first | refine wpFl_chain (by rfl) ?_ | (refine wpFl_still (by rfl) (by rfl) (fun K hK => ?_); go_simp; (refine ⟨_, fun _ _ => rfl, hK _ ?_⟩; clear hK K)))
                refine wpFl_still (by rfl) (by rfl) (fun K hK => ?_)
                go_simp
                refine ⟨.int .u32 x, fun W hW => by rw [(hW.cell (cell_lt hxr6)).trans hxr6]; rfl, hK _ ?_⟩
                clear hK K
                repeat refine wpFl_chain (by rfl) ?_
                refine wpFl_nil ?_
                show wpTs _ _ _ _ 7 _ _ _
                refine wpTs_2 (i := 2) (j := 13) (rem1 := [8, 13, 14, 15, 16, 17]) (rem2 := [2, 8, 14, 15, 16, 17]) (by kernel_rfl) (by rfl) (by rfl) (by rfl) (by rfl) (fun K hK => ?_) (fun K hK => ?_)
                · go_wp2_with fail
                  refine hK _ _ (below_dn (k := 1) ((Below.refl w6.heap.size w6).alloc (Below.refl w6.heap.size w6).size _)) ?_
                  clear hK K
                  obtain ⟨X1, hX⟩ : ∃ X, X = (w6.alloc (Obj.cells #[] 72)).drew := ⟨_, rfl⟩
                  have bx1 : Below w6.heap.size w6 X1 := by rw [hX]; exact below_dn (k := 1) ((Below.refl w6.heap.size w6).alloc (Below.refl w6.heap.size w6).size _)
                  have hs1 : Hid (X1.heap.size = w6.heap.size + 1) := by rw [hX]; exact World.size_alloc w6 _
                  have eo1 : X1.ownsRow w6.heap.size 72 1 (.slice (some ⟨w6.heap.size, 0, none⟩) 0 0) 0 [] := by rw [hX]; exact World.ownsRow_made (w := w6) #[] 0 (Below.refl w6.heap.size w6).size (Nat.zero_le _) rfl
                  rw [← hX]
                  clear hX
                  refine wpTs_2 (i := 8) (j := 13) (rem1 := [13, 14, 15, 16, 17]) (rem2 := [8, 14, 15, 16, 17]) (by kernel_rfl) (by rfl) (by rfl) (by rfl) (by rfl) (fun K hK => ?_) (fun K hK => ?_)
                  · refine wpList_append_own_none rfl _ _ 71 rfl w6.heap.size 72 i0 1 Try.underlying71 hi (.slice (some ⟨w6.heap.size, 0, none⟩) 0 0) 0 [] rfl eo1 rfl ?_
                    refine hK _ _ bx1 ?_
                    go_simp
                    clear hK K
                    refine wpTs_1 (i := 13) (rem1 := [14, 15, 16, 17]) (by kernel_rfl) (by rfl) (by rfl) (fun K hK => ?_)
                    go_wp2_with fail
                    refine hK _ _ (bx1.alloc bx1.size _) ?_
                    clear hK K
                    obtain ⟨X3, hX⟩ : ∃ X, X = (X1.alloc (Obj.cells #[Value.int .u32 x] 72)) := ⟨_, rfl⟩
                    have bx3 : Below w6.heap.size w6 X3 := by rw [hX]; exact bx1.alloc bx1.size _
                    have hs3 : Hid (X3.heap.size = X1.heap.size + 1) := by rw [hX]; exact World.size_alloc X1 _
                    have cx3 : X3.cell? ⟨X1.heap.size, 0, none⟩ = some (.int .u32 x) := by rw [hX]; show (X1.alloc _).cell? _ = _; exact World.cell?_alloc_at _ _ _ _ rfl
                    have h8_3 := eo1.alloc (Obj.cells #[Value.int .u32 x] 72)
                    rw [show X1.alloc (Obj.cells #[Value.int .u32 x] 72) = X3 from hX.symm] at h8_3
                    rw [← hX]
                    clear hX
                    refine wpTs_1 (i := 14) (rem1 := [15, 16, 17]) (by kernel_rfl) (by rfl) (by rfl) (fun K hK => ?_)
                    have hnx : ∀ (j : Nat) (u : Value), [Value.int .u32 x][j]? = some u → X3.cell? ((⟨X1.heap.size, 0, none⟩ : Addr).add j) = some u := fun j u hj => by
                      match j, hj with
                      | 0, hj => simp at hj; subst hj; rw [add_off]; exact cx3
                      | j + 1, hj => simp at hj
                    refine wpList_append_own _ rfl _ _ 71 rfl w6.heap.size 72 i0 (.int .u32 0) 1 4 Try.underlying71 hi hz0 hz1 hz2 rfl (by decide) (.slice (some ⟨w6.heap.size, 0, none⟩) 0 0) 0 [] rfl h8_3 ⟨X1.heap.size, 0, none⟩ 1 1 _ rfl rfl hnx (by simp [Value.oneCell']) (by unfold maxLen; omega) (by omega) bx3.size ?_
                    intro v14 X4 h14 hgrow4 _
                    obtain ⟨g14, c14, rfl, _, _, _, _, _⟩ := own_form h14 (by omega)
                    have bx4 := bx3.grown hgrow4 bx3.size fun j hj => (h8_3.lt j hj).1
                    refine hK _ _ bx4 ?_
                    go_simp
                    clear hK K
                    refine wpTs_1 (i := 15) (rem1 := [16, 17]) (by kernel_rfl) (by rfl) (by rfl) (fun K hK => ?_)
                    go_wp2_with fail
                    refine hK _ _ bx4 ?_
                    clear hK K
                    refine wpTs_1 (i := 16) (rem1 := [17]) (by kernel_rfl) (by rfl) (by rfl) (fun K hK => ?_)
                    go_wp2_with fail
                    refine hK _ _ bx4 ?_
                    clear hK K
                    refine wpTs_last (i := 17) (rem1 := []) (by kernel_rfl) (by rfl) (by rfl) (by kernel_rfl) (fun K hK => ?_)
                    have cS := (bx4.cell (cell_lt cN)).trans cN
                    have fS := (own_saveN hown1 (Save.of_below bx4 fun _ => False) fun _ _ => id).frozenAt ((M + 1) * 3 + 2)
                    have HF := hid (HNW.out X4 _ bx4 h14)
                    go_wp2_with fail
                    refine wpTs_0 ?_
                    go_wp2
                    go_roundw
                    case rel => exact ⟨k + 1, m - 1, ps, [x], (init0 ++ [x0]) ++ [((0, 0, [x]), .slice (some ⟨g14, 0, none⟩) (0 + 1) c14)], by go_num, hlt, by omega, by rw [List.length_append, HLL.out]; show _ + 1 ≤ _; omega, by simp, HN.out, by show _ = _; rw [List.map_append, HI.out]; unfold flushF; rw [if_neg (by simp)]; rfl, HLP.out, by rw [List.length_append, HLL.out]; exact HF.out.1, HF.out.2.1, HF.out.2.2⟩
                    case measure => simp [intOf]; omega
                  · go_wp2_with fail
                    refine hK _ _ (bx1.alloc bx1.size _) ?_
                    clear hK K
                    obtain ⟨X2, hX⟩ : ∃ X, X = (X1.alloc (Obj.cells #[Value.int .u32 x] 72)) := ⟨_, rfl⟩
                    have bx2 : Below w6.heap.size w6 X2 := by rw [hX]; exact bx1.alloc bx1.size _
                    have hs2 : Hid (X2.heap.size = X1.heap.size + 1) := by rw [hX]; exact World.size_alloc X1 _
                    have cx2 : X2.cell? ⟨X1.heap.size, 0, none⟩ = some (.int .u32 x) := by rw [hX]; show (X1.alloc _).cell? _ = _; exact World.cell?_alloc_at _ _ _ _ rfl
                    have eo2 := eo1.alloc (Obj.cells #[Value.int .u32 x] 72)
                    rw [show X1.alloc (Obj.cells #[Value.int .u32 x] 72) = X2 from hX.symm] at eo2
                    rw [← hX]
                    clear hX
                    refine wpTs_1 (i := 8) (rem1 := [14, 15, 16, 17]) (by kernel_rfl) (by rfl) (by rfl) (fun K hK => ?_)
                    refine wpList_append_own_none rfl _ _ 71 rfl w6.heap.size 72 i0 1 Try.underlying71 hi (.slice (some ⟨w6.heap.size, 0, none⟩) 0 0) 0 [] rfl eo2 rfl ?_
                    refine hK _ _ bx2 ?_
                    go_simp
                    clear hK K
                    refine wpTs_1 (i := 14) (rem1 := [15, 16, 17]) (by kernel_rfl) (by rfl) (by rfl) (fun K hK => ?_)
                    have hnx : ∀ (j : Nat) (u : Value), [Value.int .u32 x][j]? = some u → X2.cell? ((⟨X1.heap.size, 0, none⟩ : Addr).add j) = some u := fun j u hj => by
                      match j, hj with
                      | 0, hj => simp at hj; subst hj; rw [add_off]; exact cx2
                      | j + 1, hj => simp at hj
                    refine wpList_append_own _ rfl _ _ 71 rfl w6.heap.size 72 i0 (.int .u32 0) 1 4 Try.underlying71 hi hz0 hz1 hz2 rfl (by decide) (.slice (some ⟨w6.heap.size, 0, none⟩) 0 0) 0 [] rfl eo2 ⟨X1.heap.size, 0, none⟩ 1 1 _ rfl rfl hnx (by simp [Value.oneCell']) (by unfold maxLen; omega) (by omega) bx2.size ?_
                    intro v14 X4 h14 hgrow4 _
                    obtain ⟨g14, c14, rfl, _, _, _, _, _⟩ := own_form h14 (by omega)
                    have bx4 := bx2.grown hgrow4 bx2.size fun j hj => (eo2.lt j hj).1
                    refine hK _ _ bx4 ?_
                    go_simp
                    clear hK K
                    refine wpTs_1 (i := 15) (rem1 := [16, 17]) (by kernel_rfl) (by rfl) (by rfl) (fun K hK => ?_)
                    go_wp2_with fail
                    refine hK _ _ bx4 ?_
                    clear hK K
                    refine wpTs_1 (i := 16) (rem1 := [17]) (by kernel_rfl) (by rfl) (by rfl) (fun K hK => ?_)
                    go_wp2_with fail
                    refine hK _ _ bx4 ?_
                    clear hK K
                    refine wpTs_last (i := 17) (rem1 := []) (by kernel_rfl) (by rfl) (by rfl) (by kernel_rfl) (fun K hK => ?_)
                    have cS := (bx4.cell (cell_lt cN)).trans cN
                    have fS := (own_saveN hown1 (Save.of_below bx4 fun _ => False) fun _ _ => id).frozenAt ((M + 1) * 3 + 2)
                    have HF := hid (HNW.out X4 _ bx4 h14)
                    go_wp2_with fail
                    refine wpTs_0 ?_
                    go_wp2
                    go_roundw
                    case rel => exact ⟨k + 1, m - 1, ps, [x], (init0 ++ [x0]) ++ [((0, 0, [x]), .slice (some ⟨g14, 0, none⟩) (0 + 1) c14)], by go_num, hlt, by omega, by rw [List.length_append, HLL.out]; show _ + 1 ≤ _; omega, by simp, HN.out, by show _ = _; rw [List.map_append, HI.out]; unfold flushF; rw [if_neg (by simp)]; rfl, HLP.out, by rw [List.length_append, HLL.out]; exact HF.out.1, HF.out.2.1, HF.out.2.2⟩
                    case measure => simp [intOf]; omega
                · go_wp2_with fail
                  refine hK _ _ (below_dn (k := 1) ((Below.refl w6.heap.size w6).alloc (Below.refl w6.heap.size w6).size _)) ?_
                  clear hK K
                  obtain ⟨X1, hX⟩ : ∃ X, X = (w6.alloc (Obj.cells #[Value.int .u32 x] 72)).drew := ⟨_, rfl⟩
                  have bx1 : Below w6.heap.size w6 X1 := by rw [hX]; exact below_dn (k := 1) ((Below.refl w6.heap.size w6).alloc (Below.refl w6.heap.size w6).size _)
                  have hs1 : Hid (X1.heap.size = w6.heap.size + 1) := by rw [hX]; exact World.size_alloc w6 _
                  have cx1 : X1.cell? ⟨w6.heap.size, 0, none⟩ = some (.int .u32 x) := by rw [hX]; show (w6.alloc _).cell? _ = _; exact World.cell?_alloc_at _ _ _ _ rfl
                  rw [← hX]
                  clear hX
                  refine wpTs_1 (i := 2) (rem1 := [8, 14, 15, 16, 17]) (by kernel_rfl) (by rfl) (by rfl) (fun K hK => ?_)
                  go_wp2_with fail
                  refine hK _ _ (bx1.alloc bx1.size _) ?_
                  clear hK K
                  obtain ⟨X2, hX⟩ : ∃ X, X = (X1.alloc (Obj.cells #[] 72)) := ⟨_, rfl⟩
                  have bx2 : Below w6.heap.size w6 X2 := by rw [hX]; exact bx1.alloc bx1.size _
                  have hs2 : Hid (X2.heap.size = X1.heap.size + 1) := by rw [hX]; exact World.size_alloc X1 _
                  have eo2 : X2.ownsRow w6.heap.size 72 1 (.slice (some ⟨X1.heap.size, 0, none⟩) 0 0) 0 [] := by rw [hX]; exact World.ownsRow_made (w := X1) #[] 0 bx1.size (Nat.zero_le _) rfl
                  have cx2 : X2.cell? ⟨w6.heap.size, 0, none⟩ = some (.int .u32 x) := by rw [hX]; exact cell_alloc cx1 _
                  rw [← hX]
                  clear hX
                  refine wpTs_1 (i := 8) (rem1 := [14, 15, 16, 17]) (by kernel_rfl) (by rfl) (by rfl) (fun K hK => ?_)
                  refine wpList_append_own_none rfl _ _ 71 rfl w6.heap.size 72 i0 1 Try.underlying71 hi (.slice (some ⟨X1.heap.size, 0, none⟩) 0 0) 0 [] rfl eo2 rfl ?_
                  refine hK _ _ bx2 ?_
                  go_simp
                  clear hK K
                  refine wpTs_1 (i := 14) (rem1 := [15, 16, 17]) (by kernel_rfl) (by rfl) (by rfl) (fun K hK => ?_)
                  have hnx : ∀ (j : Nat) (u : Value), [Value.int .u32 x][j]? = some u → X2.cell? ((⟨w6.heap.size, 0, none⟩ : Addr).add j) = some u := fun j u hj => by
                    match j, hj with
                    | 0, hj => simp at hj; subst hj; rw [add_off]; exact cx2
                    | j + 1, hj => simp at hj
                  refine wpList_append_own _ rfl _ _ 71 rfl w6.heap.size 72 i0 (.int .u32 0) 1 4 Try.underlying71 hi hz0 hz1 hz2 rfl (by decide) (.slice (some ⟨X1.heap.size, 0, none⟩) 0 0) 0 [] rfl eo2 ⟨w6.heap.size, 0, none⟩ 1 1 _ rfl rfl hnx (by simp [Value.oneCell']) (by unfold maxLen; omega) (by omega) bx2.size ?_
                  intro v14 X4 h14 hgrow4 _
                  obtain ⟨g14, c14, rfl, _, _, _, _, _⟩ := own_form h14 (by omega)
                  have bx4 := bx2.grown hgrow4 bx2.size fun j hj => (eo2.lt j hj).1
                  refine hK _ _ bx4 ?_
                  go_simp
                  clear hK K
                  refine wpTs_1 (i := 15) (rem1 := [16, 17]) (by kernel_rfl) (by rfl) (by rfl) (fun K hK => ?_)
                  go_wp2_with fail
                  refine hK _ _ bx4 ?_
                  clear hK K
                  refine wpTs_1 (i := 16) (rem1 := [17]) (by kernel_rfl) (by rfl) (by rfl) (fun K hK => ?_)
                  go_wp2_with fail
                  refine hK _ _ bx4 ?_
                  clear hK K
                  refine wpTs_last (i := 17) (rem1 := []) (by kernel_rfl) (by rfl) (by rfl) (by kernel_rfl) (fun K hK => ?_)
                  have cS := (bx4.cell (cell_lt cN)).trans cN
                  have fS := (own_saveN hown1 (Save.of_below bx4 fun _ => False) fun _ _ => id).frozenAt ((M + 1) * 3 + 2)
                  have HF := hid (HNW.out X4 _ bx4 h14)
                  go_wp2_with fail
                  refine wpTs_0 ?_
                  go_wp2
                  go_roundw
                  case rel => exact ⟨k + 1, m - 1, ps, [x], (init0 ++ [x0]) ++ [((0, 0, [x]), .slice (some ⟨g14, 0, none⟩) (0 + 1) c14)], by go_num, hlt, by omega, by rw [List.length_append, HLL.out]; show _ + 1 ≤ _; omega, by simp, HN.out, by show _ = _; rw [List.map_append, HI.out]; unfold flushF; rw [if_neg (by simp)]; rfl, HLP.out, by rw [List.length_append, HLL.out]; exact HF.out.1, HF.out.2.1, HF.out.2.2⟩
                  case measure => simp [intOf]; omega
            · have hne : fs ≠ [] := fun e => by rw [e] at h0; cases h0
              have HMF := HM.out
              rw [show flushF ps fs = ps ++ [(0, 0, fs)] from if_neg hne] at HMF
              obtain ⟨init, v, rfl, hinit⟩ := map_snoc HMF
              have hrow : wr.ownsRow w.heap.size 72 1 v fs.length (vu fs) := by
                rcases hok1 ((0, 0, fs), v) (by simp) with h | h
                · exact (hne h.1).elim
                · exact h.2.1
              have hoki : ∀ y ∈ init, PcOk wr w.heap.size none y := fun y hy => hok1 y (by simp [hy])
              rw [List.length_append, List.length_singleton] at hown1 hrl
              obtain ⟨g, cg, rfl, _, _, _, hgc, hgf⟩ := own_form3 hown1 (by omega)
              obtain ⟨vb, vcc, rfl, _, _, _, _, _⟩ := own_form hrow h0
              have cN : wr.cell? ⟨g, init.length * 3 + 2, none⟩ = some (.slice (some ⟨vb, 0, none⟩) fs.length vcc) := (hgc _ (by omega)).trans (cellsP_last _ _)
              have HI := hid hinit
              clear HM HMF hinit hok1
              have hd : ((fs.length : Int) == 0) = false := beq_eq_false_iff_ne.2 (by omega)
              have HNW := hid (fun W4 v' h4 hr => new_word (w := w) (W4 := W4) (v' := v') (x := x) hown1 hoki b1 h4 hr)
              obtain ⟨L, hL⟩ : ∃ L, init.length = L := ⟨_, rfl⟩
              rw [hL] at hown1 cN HNW hgc ⊢
              have hfL : wr.frozen? ⟨g, L * 3 + 2, none⟩ = false := hgf _
              have HLL := hid hL
              have hL4 : L ≤ 10000 := by omega
              clear hL hgc hgf hoki
              have t5 : decide ((L : Int) < 0) = false := by simp
              go_wp2
              refine wp_region_free [2, 8, 13, 14, 15, 16, 17] (fun W => Below wr.heap.size wr W) (by kernel_rfl) (by kernel_rfl) (below_dn (k := 1) (Below.refl _ _)) ?_
              repeat (first | refine wpFl_chain (by rfl) ?_ | (refine wpFl_still (by rfl) (by rfl) (fun K hK => ?_); go_simp; (refine ⟨_, fun _ _ => rfl, hK _ ?_⟩; clear hK K)))
              refine wpFl_still (by rfl) (by rfl) (fun K hK => ?_)
              go_simp
              refine ⟨.pointer (some ⟨g, L * 3, none⟩), fun W _ => by rw [if_pos (by omega)], hK _ ?_⟩
              clear hK K
              refine wpFl_still (by rfl) (by rfl) (fun K hK => ?_)
              go_simp
              refine ⟨_, fun _ _ => rfl, hK _ ?_⟩
              clear hK K
              refine wpFl_still (by rfl) (by rfl) (fun K hK => ?_)
              go_simp
              refine ⟨.slice (some ⟨vb, 0, none⟩) fs.length vcc, fun W hW => by rw [(hW.cell (cell_lt cN)).trans cN]; rfl, hK _ ?_⟩
              clear hK K
              repeat (first | refine wpFl_chain (by rfl) ?_ | (refine wpFl_still (by rfl) (by rfl) (fun K hK => ?_); go_simp; (refine ⟨_, fun _ _ => rfl, hK _ ?_⟩; clear hK K)))
              refine wpFl_still (by rfl) (by rfl) (fun K hK => ?_)
              go_simp
              refine ⟨.int .u32 x, fun W hW => by rw [(hW.cell (cell_lt hxr)).trans hxr]; rfl, hK _ ?_⟩
              clear hK K
              repeat refine wpFl_chain (by rfl) ?_
              refine wpFl_nil ?_
              show wpTs _ _ _ _ 7 _ _ _
              refine wpTs_2 (i := 2) (j := 13) (rem1 := [8, 13, 14, 15, 16, 17]) (rem2 := [2, 8, 14, 15, 16, 17]) (by kernel_rfl) (by rfl) (by rfl) (by rfl) (by rfl) (fun K hK => ?_) (fun K hK => ?_)
              · go_wp2_with fail
                refine hK _ _ (below_dn (k := 1) ((Below.refl wr.heap.size wr).alloc (Below.refl wr.heap.size wr).size _)) ?_
                clear hK K
                obtain ⟨X1, hX⟩ : ∃ X, X = (wr.alloc (Obj.cells #[] 72)).drew := ⟨_, rfl⟩
                have bx1 : Below wr.heap.size wr X1 := by rw [hX]; exact below_dn (k := 1) ((Below.refl wr.heap.size wr).alloc (Below.refl wr.heap.size wr).size _)
                have hs1 : Hid (X1.heap.size = wr.heap.size + 1) := by rw [hX]; exact World.size_alloc wr _
                have eo1 : X1.ownsRow wr.heap.size 72 1 (.slice (some ⟨wr.heap.size, 0, none⟩) 0 0) 0 [] := by rw [hX]; exact World.ownsRow_made (w := wr) #[] 0 (Below.refl wr.heap.size wr).size (Nat.zero_le _) rfl
                rw [← hX]
                clear hX
                refine wpTs_2 (i := 8) (j := 13) (rem1 := [13, 14, 15, 16, 17]) (rem2 := [8, 14, 15, 16, 17]) (by kernel_rfl) (by rfl) (by rfl) (by rfl) (by rfl) (fun K hK => ?_) (fun K hK => ?_)
                · have hv2 := own_saveN hrow (Save.of_below bx1 fun _ => False) fun _ _ => id
                  have hnv2 := hv2.cells (g := vb) rfl
                  refine wpList_append_own _ rfl _ _ 71 rfl wr.heap.size 72 i0 (.int .u32 0) 1 4 Try.underlying71 hi hz0 hz1 hz2 rfl (by decide) (.slice (some ⟨wr.heap.size, 0, none⟩) 0 0) 0 [] rfl eo1 ⟨vb, 0, none⟩ fs.length vcc (vu fs) rfl (by rw [vu_length]; omega) hnv2 (vu_one _) (by unfold maxLen; omega) (by omega) bx1.size ?_
                  intro v8 X2 h8_2 hgrow2 _
                  have bx2 := bx1.grown hgrow2 bx1.size fun j hj => (eo1.lt j hj).1
                  refine hK _ _ bx2 ?_
                  go_simp
                  clear hK K
                  rw [Nat.zero_add, List.nil_append] at h8_2
                  refine wpTs_1 (i := 13) (rem1 := [14, 15, 16, 17]) (by kernel_rfl) (by rfl) (by rfl) (fun K hK => ?_)
                  go_wp2_with fail
                  refine hK _ _ (bx2.alloc bx2.size _) ?_
                  clear hK K
                  obtain ⟨X3, hX⟩ : ∃ X, X = (X2.alloc (Obj.cells #[Value.int .u32 x] 72)) := ⟨_, rfl⟩
                  have bx3 : Below wr.heap.size wr X3 := by rw [hX]; exact bx2.alloc bx2.size _
                  have hs3 : Hid (X3.heap.size = X2.heap.size + 1) := by rw [hX]; exact World.size_alloc X2 _
                  have cx3 : X3.cell? ⟨X2.heap.size, 0, none⟩ = some (.int .u32 x) := by rw [hX]; show (X2.alloc _).cell? _ = _; exact World.cell?_alloc_at _ _ _ _ rfl
                  have h8_3 := h8_2.alloc (Obj.cells #[Value.int .u32 x] 72)
                  rw [show X2.alloc (Obj.cells #[Value.int .u32 x] 72) = X3 from hX.symm] at h8_3
                  rw [← hX]
                  clear hX
                  refine wpTs_1 (i := 14) (rem1 := [15, 16, 17]) (by kernel_rfl) (by rfl) (by rfl) (fun K hK => ?_)
                  have hnx : ∀ (j : Nat) (u : Value), [Value.int .u32 x][j]? = some u → X3.cell? ((⟨X2.heap.size, 0, none⟩ : Addr).add j) = some u := fun j u hj => by
                    match j, hj with
                    | 0, hj => simp at hj; subst hj; rw [add_off]; exact cx3
                    | j + 1, hj => simp at hj
                  refine wpList_append_own _ rfl _ _ 71 rfl wr.heap.size 72 i0 (.int .u32 0) 1 4 Try.underlying71 hi hz0 hz1 hz2 rfl (by decide) v8 fs.length (vu fs) rfl h8_3 ⟨X2.heap.size, 0, none⟩ 1 1 _ rfl rfl hnx (by simp [Value.oneCell']) (by unfold maxLen; omega) (by omega) bx3.size ?_
                  intro v14 X4 h14 hgrow4 _
                  obtain ⟨g14, c14, rfl, _, _, _, _, _⟩ := own_form h14 (by omega)
                  have bx4 := bx3.grown hgrow4 bx3.size fun j hj => (h8_3.lt j hj).1
                  refine hK _ _ bx4 ?_
                  go_simp
                  clear hK K
                  refine wpTs_1 (i := 15) (rem1 := [16, 17]) (by kernel_rfl) (by rfl) (by rfl) (fun K hK => ?_)
                  go_wp2_with fail
                  refine hK _ _ bx4 ?_
                  clear hK K
                  refine wpTs_1 (i := 16) (rem1 := [17]) (by kernel_rfl) (by rfl) (by rfl) (fun K hK => ?_)
                  go_wp2_with fail
                  refine hK _ _ bx4 ?_
                  clear hK K
                  refine wpTs_last (i := 17) (rem1 := []) (by kernel_rfl) (by rfl) (by rfl) (by kernel_rfl) (fun K hK => ?_)
                  have cS := (bx4.cell (cell_lt cN)).trans cN
                  have fS := (own_saveN hown1 (Save.of_below bx4 fun _ => False) fun _ _ => id).frozenAt (L * 3 + 2)
                  have HF := hid (HNW.out X4 _ bx4 h14)
                  go_wp2_with fail
                  refine wpTs_0 ?_
                  go_wp2
                  go_roundw
                  case rel => exact ⟨k + 1, m - 1, ps, fs ++ [x], init ++ [((0, 0, fs ++ [x]), .slice (some ⟨g14, 0, none⟩) (fs.length + 1) c14)], by go_num, hlt, by omega, by have := HLL.out; simp; omega, by simp; omega, HN.out, by show _ = _; rw [List.map_append, HI.out]; unfold flushF; rw [if_neg (by simp)]; rfl, HLP.out, by rw [List.length_append, HLL.out]; exact HF.out.1, by have e := HF.out.2.1; exact e, by have e := HF.out.2.2; exact e⟩
                  case measure => simp [intOf]; omega
                · go_wp2_with fail
                  refine hK _ _ (bx1.alloc bx1.size _) ?_
                  clear hK K
                  obtain ⟨X2, hX⟩ : ∃ X, X = (X1.alloc (Obj.cells #[Value.int .u32 x] 72)) := ⟨_, rfl⟩
                  have bx2 : Below wr.heap.size wr X2 := by rw [hX]; exact bx1.alloc bx1.size _
                  have hs2 : Hid (X2.heap.size = X1.heap.size + 1) := by rw [hX]; exact World.size_alloc X1 _
                  have cx2 : X2.cell? ⟨X1.heap.size, 0, none⟩ = some (.int .u32 x) := by rw [hX]; show (X1.alloc _).cell? _ = _; exact World.cell?_alloc_at _ _ _ _ rfl
                  have eo2 := eo1.alloc (Obj.cells #[Value.int .u32 x] 72)
                  rw [show X1.alloc (Obj.cells #[Value.int .u32 x] 72) = X2 from hX.symm] at eo2
                  rw [← hX]
                  clear hX
                  refine wpTs_1 (i := 8) (rem1 := [14, 15, 16, 17]) (by kernel_rfl) (by rfl) (by rfl) (fun K hK => ?_)
                  have hv3 := own_saveN hrow (Save.of_below bx2 fun _ => False) fun _ _ => id
                  have hnv3 := hv3.cells (g := vb) rfl
                  refine wpList_append_own _ rfl _ _ 71 rfl wr.heap.size 72 i0 (.int .u32 0) 1 4 Try.underlying71 hi hz0 hz1 hz2 rfl (by decide) (.slice (some ⟨wr.heap.size, 0, none⟩) 0 0) 0 [] rfl eo2 ⟨vb, 0, none⟩ fs.length vcc (vu fs) rfl (by rw [vu_length]; omega) hnv3 (vu_one _) (by unfold maxLen; omega) (by omega) bx2.size ?_
                  intro v8 X3 h8_3 hgrow3 _
                  have bx3 := bx2.grown hgrow3 bx2.size fun j hj => (eo2.lt j hj).1
                  refine hK _ _ bx3 ?_
                  go_simp
                  clear hK K
                  rw [Nat.zero_add, List.nil_append] at h8_3
                  have cx3 : X3.cell? ⟨X1.heap.size, 0, none⟩ = some (.int .u32 x) := hgrow3.cell cx2 fun e => by have := hs1.out; simp [Value.ownBlock] at e; omega
                  refine wpTs_1 (i := 14) (rem1 := [15, 16, 17]) (by kernel_rfl) (by rfl) (by rfl) (fun K hK => ?_)
                  have hnx : ∀ (j : Nat) (u : Value), [Value.int .u32 x][j]? = some u → X3.cell? ((⟨X1.heap.size, 0, none⟩ : Addr).add j) = some u := fun j u hj => by
                    match j, hj with
                    | 0, hj => simp at hj; subst hj; rw [add_off]; exact cx3
                    | j + 1, hj => simp at hj
                  refine wpList_append_own _ rfl _ _ 71 rfl wr.heap.size 72 i0 (.int .u32 0) 1 4 Try.underlying71 hi hz0 hz1 hz2 rfl (by decide) v8 fs.length (vu fs) rfl h8_3 ⟨X1.heap.size, 0, none⟩ 1 1 _ rfl rfl hnx (by simp [Value.oneCell']) (by unfold maxLen; omega) (by omega) bx3.size ?_
                  intro v14 X4 h14 hgrow4 _
                  obtain ⟨g14, c14, rfl, _, _, _, _, _⟩ := own_form h14 (by omega)
                  have bx4 := bx3.grown hgrow4 bx3.size fun j hj => (h8_3.lt j hj).1
                  refine hK _ _ bx4 ?_
                  go_simp
                  clear hK K
                  refine wpTs_1 (i := 15) (rem1 := [16, 17]) (by kernel_rfl) (by rfl) (by rfl) (fun K hK => ?_)
                  go_wp2_with fail
                  refine hK _ _ bx4 ?_
                  clear hK K
                  refine wpTs_1 (i := 16) (rem1 := [17]) (by kernel_rfl) (by rfl) (by rfl) (fun K hK => ?_)
                  go_wp2_with fail
                  refine hK _ _ bx4 ?_
                  clear hK K
                  refine wpTs_last (i := 17) (rem1 := []) (by kernel_rfl) (by rfl) (by rfl) (by kernel_rfl) (fun K hK => ?_)
                  have cS := (bx4.cell (cell_lt cN)).trans cN
                  have fS := (own_saveN hown1 (Save.of_below bx4 fun _ => False) fun _ _ => id).frozenAt (L * 3 + 2)
                  have HF := hid (HNW.out X4 _ bx4 h14)
                  go_wp2_with fail
                  refine wpTs_0 ?_
                  go_wp2
                  go_roundw
                  case rel => exact ⟨k + 1, m - 1, ps, fs ++ [x], init ++ [((0, 0, fs ++ [x]), .slice (some ⟨g14, 0, none⟩) (fs.length + 1) c14)], by go_num, hlt, by omega, by have := HLL.out; simp; omega, by simp; omega, HN.out, by show _ = _; rw [List.map_append, HI.out]; unfold flushF; rw [if_neg (by simp)]; rfl, HLP.out, by rw [List.length_append, HLL.out]; exact HF.out.1, by have e := HF.out.2.1; exact e, by have e := HF.out.2.2; exact e⟩
                  case measure => simp [intOf]; omega
              · go_wp2_with fail
                refine hK _ _ (below_dn (k := 1) ((Below.refl wr.heap.size wr).alloc (Below.refl wr.heap.size wr).size _)) ?_
                clear hK K
                obtain ⟨X1, hX⟩ : ∃ X, X = (wr.alloc (Obj.cells #[Value.int .u32 x] 72)).drew := ⟨_, rfl⟩
                have bx1 : Below wr.heap.size wr X1 := by rw [hX]; exact below_dn (k := 1) ((Below.refl wr.heap.size wr).alloc (Below.refl wr.heap.size wr).size _)
                have hs1 : Hid (X1.heap.size = wr.heap.size + 1) := by rw [hX]; exact World.size_alloc wr _
                have cx1 : X1.cell? ⟨wr.heap.size, 0, none⟩ = some (.int .u32 x) := by rw [hX]; show (wr.alloc _).cell? _ = _; exact World.cell?_alloc_at _ _ _ _ rfl
                rw [← hX]
                clear hX
                refine wpTs_1 (i := 2) (rem1 := [8, 14, 15, 16, 17]) (by kernel_rfl) (by rfl) (by rfl) (fun K hK => ?_)
                go_wp2_with fail
                refine hK _ _ (bx1.alloc bx1.size _) ?_
                clear hK K
                obtain ⟨X2, hX⟩ : ∃ X, X = (X1.alloc (Obj.cells #[] 72)) := ⟨_, rfl⟩
                have bx2 : Below wr.heap.size wr X2 := by rw [hX]; exact bx1.alloc bx1.size _
                have hs2 : Hid (X2.heap.size = X1.heap.size + 1) := by rw [hX]; exact World.size_alloc X1 _
                have eo2 : X2.ownsRow wr.heap.size 72 1 (.slice (some ⟨X1.heap.size, 0, none⟩) 0 0) 0 [] := by rw [hX]; exact World.ownsRow_made (w := X1) #[] 0 bx1.size (Nat.zero_le _) rfl
                have cx2 : X2.cell? ⟨wr.heap.size, 0, none⟩ = some (.int .u32 x) := by rw [hX]; exact cell_alloc cx1 _
                rw [← hX]
                clear hX
                refine wpTs_1 (i := 8) (rem1 := [14, 15, 16, 17]) (by kernel_rfl) (by rfl) (by rfl) (fun K hK => ?_)
                have hv3 := own_saveN hrow (Save.of_below bx2 fun _ => False) fun _ _ => id
                have hnv3 := hv3.cells (g := vb) rfl
                refine wpList_append_own _ rfl _ _ 71 rfl wr.heap.size 72 i0 (.int .u32 0) 1 4 Try.underlying71 hi hz0 hz1 hz2 rfl (by decide) (.slice (some ⟨X1.heap.size, 0, none⟩) 0 0) 0 [] rfl eo2 ⟨vb, 0, none⟩ fs.length vcc (vu fs) rfl (by rw [vu_length]; omega) hnv3 (vu_one _) (by unfold maxLen; omega) (by omega) bx2.size ?_
                intro v8 X3 h8_3 hgrow3 _
                have bx3 := bx2.grown hgrow3 bx2.size fun j hj => (eo2.lt j hj).1
                refine hK _ _ bx3 ?_
                go_simp
                clear hK K
                rw [Nat.zero_add, List.nil_append] at h8_3
                have cx3 : X3.cell? ⟨wr.heap.size, 0, none⟩ = some (.int .u32 x) := hgrow3.cell cx2 fun e => by have := hs1.out; simp [Value.ownBlock] at e; omega
                refine wpTs_1 (i := 14) (rem1 := [15, 16, 17]) (by kernel_rfl) (by rfl) (by rfl) (fun K hK => ?_)
                have hnx : ∀ (j : Nat) (u : Value), [Value.int .u32 x][j]? = some u → X3.cell? ((⟨wr.heap.size, 0, none⟩ : Addr).add j) = some u := fun j u hj => by
                  match j, hj with
                  | 0, hj => simp at hj; subst hj; rw [add_off]; exact cx3
                  | j + 1, hj => simp at hj
                refine wpList_append_own _ rfl _ _ 71 rfl wr.heap.size 72 i0 (.int .u32 0) 1 4 Try.underlying71 hi hz0 hz1 hz2 rfl (by decide) v8 fs.length (vu fs) rfl h8_3 ⟨wr.heap.size, 0, none⟩ 1 1 _ rfl rfl hnx (by simp [Value.oneCell']) (by unfold maxLen; omega) (by omega) bx3.size ?_
                intro v14 X4 h14 hgrow4 _
                obtain ⟨g14, c14, rfl, _, _, _, _, _⟩ := own_form h14 (by omega)
                have bx4 := bx3.grown hgrow4 bx3.size fun j hj => (h8_3.lt j hj).1
                refine hK _ _ bx4 ?_
                go_simp
                clear hK K
                refine wpTs_1 (i := 15) (rem1 := [16, 17]) (by kernel_rfl) (by rfl) (by rfl) (fun K hK => ?_)
                go_wp2_with fail
                refine hK _ _ bx4 ?_
                clear hK K
                refine wpTs_1 (i := 16) (rem1 := [17]) (by kernel_rfl) (by rfl) (by rfl) (fun K hK => ?_)
                go_wp2_with fail
                refine hK _ _ bx4 ?_
                clear hK K
                refine wpTs_last (i := 17) (rem1 := []) (by kernel_rfl) (by rfl) (by rfl) (by kernel_rfl) (fun K hK => ?_)
                have cS := (bx4.cell (cell_lt cN)).trans cN
                have fS := (own_saveN hown1 (Save.of_below bx4 fun _ => False) fun _ _ => id).frozenAt (L * 3 + 2)
                have HF := hid (HNW.out X4 _ bx4 h14)
                go_wp2_with fail
                refine wpTs_0 ?_
                go_wp2
                go_roundw
                case rel => exact ⟨k + 1, m - 1, ps, fs ++ [x], init ++ [((0, 0, fs ++ [x]), .slice (some ⟨g14, 0, none⟩) (fs.length + 1) c14)], by go_num, hlt, by omega, by have := HLL.out; simp; omega, by simp; omega, HN.out, by show _ = _; rw [List.map_append, HI.out]; unfold flushF; rw [if_neg (by simp)]; rfl, HLP.out, by rw [List.length_append, HLL.out]; exact HF.out.1, by have e := HF.out.2.1; exact e, by have e := HF.out.2.2; exact e⟩
                case measure => simp [intOf]; omega
          · have HN := hid (HO.out.trans (makeF_old hm hlt h4))
            have hle := longF_le (a := a) (b := b) (la := i) (lb := lb) (k := k) (by omega)
            clear HO
            obtain ⟨⟨r, q⟩, hr⟩ : ∃ y, longF a b i lb k i = y := ⟨_, rfl⟩
            rw [hr] at h4 HN hle ⊢
            clear hr
            have h4' : ¬ q < 4 := h4
            have hle2 : k + q ≤ lb := hle.2
            have d3 : decide ((4 : Int) ≤ (q : Int)) = true := by simp; omega
            clear h4 hle
            have r0 := hown1.alloc (Obj.cells #[.int .i64 r, .int .i64 q, .slice none 0 0] 89)
            have hnews : ∀ (j : Nat) (u : Value), [Value.int .i64 r, .int .i64 q, .slice none 0 0][j]? = some u → (wr.alloc (Obj.cells #[.int .i64 r, .int .i64 q, .slice none 0 0] 89)).cell? ((⟨wr.heap.size, 0, none⟩ : Addr).add j) = some u := fun j u hj => by
              rw [add_off, Nat.zero_add, World.cell?_alloc_at _ _ _ _ rfl]; simpa using hj
            go_wp2_with (at_builtin; refine wpList_append_own _ rfl _ _ 85 rfl w.heap.size 89 o0 (.agg #[.int .i64 0, .int .i64 0, .slice none 0 0]) 3 40 Try.underlying85 ho hy0 hy1 hy2 rfl (by decide) u5 rs.length (cellsP rs) rfl r0 ⟨wr.heap.size, 0, none⟩ 1 1 _ rfl (by simp) hnews (by simp [Value.oneCell']) (by unfold maxLen; omega) (by omega) (by have := hsz.out; rw [World.size_alloc]; omega) ?_; intro v3 w3 hown3 hgrow _)
            go_roundw
            case rel =>
              have hS2 := ((Save.alloc wr (Obj.cells #[.int .i64 r, .int .i64 q, .slice none 0 0] 89)).mono (S' := fun k => u5.ownBlock = some k) fun _ h => h.elim).trans (Save.of_grown hgrow) fun _ _ h => h
              refine ⟨k + q, m - 1, flushF ps fs ++ [((r : Int), (q : Int), [])], [], rs ++ [(((r : Int), (q : Int), []), .slice none 0 0)], by go_num, hle2, by omega, by simp; omega, by simp, HN.out, by show _ = _; rw [List.map_append, HM.out]; rfl, fun p hp => by simp at hp; subst hp; rfl, by rw [List.length_append, cellsP_snoc]; exact hown3, fun y hy => ?_, (b1.alloc hsz.out _).grown hgrow (by have := hsz.out; rw [World.size_alloc]; omega) fun j hj => (hown1.lt j hj).1⟩
              rcases List.mem_append.1 hy with hy | hy
              · exact (hok1 y hy).save hS2 fun g hg hr _ => ⟨fun e => own_ne hr hown1 (by decide) g hg e, fun e => by cases e⟩
              · obtain rfl : y = (((r : Int), (q : Int), []), .slice none 0 0) := by simpa using hy
                exact .inl ⟨rfl, rfl⟩
            case measure => simp [intOf]; omega
    · obtain rfl : k = lb := by omega
      have HE := hid (HO.out.trans (makeF_end _ _ _ (Nat.le_refl _)))
      clear HO HLP
      have t0 : decide ((k : Int) < (k : Int)) = false := by simp
      go_wp2
      go_ret
      exact ⟨_, rs, rfl, hown, HM.out.trans HE.out.symm, hok, hbr⟩
end Go.Proofs.Ytgelgpcpllmnkaa
