/-
  Contracts: patch.Apply, patch.Size.
-/
import Derived.Test.YtgelgpcpllmnkaaPatchMake
namespace Go.Proofs.Ytgelgpcpllmnkaa
open Go.RowKit
/-- Pieces that lie in a row, whoever owns it. -/
def PcsAt (w : World) (ao : Option Addr) (ps : List Pc) (va : Nat → Option Addr) (vc : Nat → Nat) : Prop := ∀ i (h : i < ps.length), ∃ b o, ao = some ⟨b, o, none⟩ ∧
  (w.cell? ⟨b, o + i * 3, none⟩ = some (.int .i64 (ps[i]'h).1) ∧ w.cell? ⟨b, o + i * 3 + 1, none⟩ = some (.int .i64 (ps[i]'h).2.1) ∧ w.cell? ⟨b, o + i * 3 + 2, none⟩ = some (.slice (va i) (ps[i]'h).2.2.length (vc i))) ∧
  Row w (va i) (ps[i]'h).2.2.length (fun j => .int .u32 ((ps[i]'h).2.2.getD j 0)) ∧ (ps[i]'h).2.2.length ≤ vc i ∧ vc i ≤ maxLen
theorem PcsAt.below {w w' : World} {ao : Option Addr} {ps : List Pc} {va : Nat → Option Addr} {vc : Nat → Nat} (h : PcsAt w ao ps va vc) (hb : Below w.heap.size w w') : PcsAt w' ao ps va vc := fun i hi => by
  obtain ⟨b, o, e, ⟨h1, h2, h3⟩, h4, h5⟩ := h i hi
  exact ⟨b, o, e, ⟨(hb.cell (cell_lt h1)).trans h1, (hb.cell (cell_lt h2)).trans h2, (hb.cell (cell_lt h3)).trans h3⟩, h4.below hb, h5⟩
/-- The words of a piece. -/
def wordsOf (a : Nat → Int) (p : Pc) : List Int := if p.2.2 = [] then (List.range p.2.1.toNat).map fun j => a (p.1.toNat + j) else p.2.2
def badPc (la : Nat) (p : Pc) : Bool := if p.2.2 = [] then decide (p.1 < 0) || decide (p.2.1 < 1) || decide ((la : Int) < p.2.1) || decide ((la : Int) - p.2.1 < p.1) else decide (p.1 ≠ 0) || decide (p.2.1 ≠ 0)
def applyL (a : Nat → Int) (la : Nat) : List Pc → List Int → List Int × Int
  | [], out => (out, 0)
  | p :: ps, out => if badPc la p then ([], 80) else if 4096 - out.length < (wordsOf a p).length then ([], 64) else applyL a la ps (out ++ wordsOf a p)
def ApplyP (r : List Int × Int) (w : World) (e : Ending) (w' : World) : Prop := ∃ v, e = .returned (.tuple #[v, .int .i64 r.2]) ∧ w'.ownsRow w.heap.size 72 1 v r.1.length (vu r.1) ∧ Below w.heap.size w w'
theorem applyP_bad {r : List Int × Int} {n : Int} {w w' : World} {e : Ending} (h : r = ([], n)) (he : e = .returned (.tuple #[.slice none 0 0, .int .i64 n])) (hb : Below w.heap.size w w') : ApplyP r w e w' := by
  rw [h]; exact ⟨_, he, World.ownsRow_nil _ _ _ _, hb⟩
theorem drop_on {ps : List Pc} {i : Nat} (h : i < ps.length) : ps.drop i = ps[i] :: ps.drop (i + 1) := List.drop_eq_getElem_cons h
theorem vu_view {w : World} {base : Nat} {v : Value} {xs : List Int} (h : w.ownsRow base 72 1 v xs.length (vu xs)) : ∃ ao c, v = .slice ao xs.length c ∧ xs.length ≤ c ∧ c ≤ maxLen ∧ Row w ao xs.length (fun i => .int .u32 (xs.getD i 0)) := by
  have key : ∀ ao c, v = .slice ao xs.length c → Row w ao xs.length (fun i => .int .u32 (xs.getD i 0)) := fun ao c e => by
    subst e
    exact (row_of_own h).congr fun i hi => by simp [vu, List.getD, List.getElem?_eq_getElem hi]
  rcases h.2 with ⟨e, h2⟩ | ⟨g, cap, cur, e, _, _, hnc, hcm, _⟩
  · rw [h2] at key ⊢; exact ⟨none, 0, e, Nat.le_refl _, Nat.zero_le _, key _ _ e⟩
  · exact ⟨_, cap, e, hnc, hcm, key _ _ e⟩
/-- News out of a row. -/
theorem news_vu {w : World} {b o n : Nat} {xs : List Int} (h : Row w (some ⟨b, o, none⟩) n (fun j => .int .u32 (xs.getD j 0))) (hn : xs.length ≤ n) : ∀ (j : Nat) (u : Value), (vu xs)[j]? = some u → w.cell? ((⟨b, o, none⟩ : Addr).add j) = some u := fun j u hj => by
  have hjl : j < xs.length := by
    have := (List.getElem?_eq_some_iff.1 hj).1
    rwa [vu_length] at this
  have := h.cellAt (i := j) (by omega)
  rw [add_off, this, ← hj]
  simp [vu, List.getD, hjl]
theorem row_part {w : World} {b o n r q : Nat} {a : Nat → Int} (h : Row w (some ⟨b, o, none⟩) n (fun j => .int .u32 (a j))) (hq : r + q ≤ n) : Row w (some ⟨b, o + r, none⟩) q (fun j => .int .u32 (((List.range q).map fun j => a (r + j)).getD j 0)) := fun i hi => ⟨b, o + r, rfl, by
  have := h.cellAt (i := r + i) (by omega)
  rw [Nat.add_assoc, this]
  simp [List.getD, hi]⟩
set_option maxRecDepth 100000 in
set_option maxHeartbeats 4000000 in
theorem apply_any (ao po : Option Addr) (la ca cp : Nat) (a : Nat → Int) (ps : List Pc) (va : Nat → Option Addr) (vc : Nat → Nat) (w : World) (ha : Row w ao la (fun j => .int .u32 (a j))) (hp : PcsAt w po ps va vc)
    (hla : la ≤ 4096) (hca : la ≤ ca) (hcam : ca ≤ maxLen) (hn : ps.length ≤ 10000) :
    Calls Try.prog 47 #[.slice ao la ca, .slice po ps.length cp] w fun e w' => ApplyP (applyL a la ps []) w e w' := by
  obtain ⟨i0, hi, hz0, hz1, hz2⟩ := info_parts infoU
  obtain ⟨n, hnn⟩ : ∃ n, ps.length = n := ⟨_, rfl⟩
  have HNN := hid hnn
  rw [hnn] at hn ⊢
  clear hnn
  go_enter Try.func47, Try.ntmps47
  go_wp2
  go_loopw [6, 8, 9, 12] (fun out _ _ ix wr => ∃ (i : Nat) (ws : List Int), ix = .int .i64 i ∧ i ≤ n ∧ ws.length ≤ 4096 ∧ Hid (applyL a la ps [] = applyL a la (ps.drop i) ws) ∧ wr.ownsRow w.heap.size 72 1 out ws.length (vu ws) ∧ Below w.heap.size w wr) (fun _ _ _ ix _ => n - (intOf ix).toNat)
  case atStart => exact ⟨0, [], rfl, Nat.zero_le _, Nat.zero_le _, rfl, World.ownsRow_nil _ _ _ _, Below.refl _ _⟩
  case round =>
    obtain ⟨i, ws, rfl, hin, hwl, HO, hown, hbr⟩ := hrel
    rcases Nat.lt_or_ge i n with hlt | hge
    · have t0 : decide ((i : Int) < (n : Int)) = true := by simp; omega
      have hil : i < ps.length := by have := HNN.out; omega
      have HS := hid (show applyL a la ps [] = applyL a la (ps[i] :: ps.drop (i + 1)) ws by rw [HO.out, drop_on hil])
      clear HO
      obtain ⟨b, o, rfl, ⟨c0, c1, c2⟩, hrw, hvc1, hvc2⟩ := (hp.below hbr) i hil
      obtain ⟨p, hpp⟩ : ∃ p, ps[i] = p := ⟨_, rfl⟩
      rw [hpp] at HS c0 c1 c2 hrw hvc1
      clear hpp
      obtain ⟨fr, mn, fs⟩ := p
      simp only at c0 c1 c2 hrw hvc1
      have hbx := hbr.alloc hbr.size (Obj.cells #[.int .i64 fr, .int .i64 mn, .slice (va i) fs.length (vc i)] 88)
      have hownx := hown.alloc (Obj.cells #[.int .i64 fr, .int .i64 mn, .slice (va i) fs.length (vc i)] 88)
      have hrwx := hrw.alloc (Obj.cells #[.int .i64 fr, .int .i64 mn, .slice (va i) fs.length (vc i)] 88)
      have hax := ha.below hbx
      have hsz := hid hbx.size
      obtain ⟨oa, oc, rfl, hol, hocm, _⟩ := vu_view hown
      rcases Nat.eq_zero_or_pos fs.length with h0 | h0
      · obtain rfl : fs = [] := List.eq_nil_of_length_eq_zero h0
        have HB : Hid (badPc la (fr, mn, []) = (decide (fr < 0) || decide (mn < 1) || decide ((la : Int) < mn) || decide ((la : Int) - mn < fr))) := rfl
        by_cases b1 : fr < 0
        · have HR := hid (show applyL a la ps [] = ([], 80) by rw [HS.out]; show (if _ then _ else _) = _; rw [if_pos (by rw [HB.out]; simp [b1])])
          have d1 : decide (fr < 0) = true := by simpa using b1
          clear HS HB
          go_wp2
          go_ret2
          exact applyP_bad HR.out rfl hbx
        have d1 : decide (fr < 0) = false := by simpa using b1
        by_cases b2 : mn < 1
        · have HR := hid (show applyL a la ps [] = ([], 80) by rw [HS.out]; show (if _ then _ else _) = _; rw [if_pos (by rw [HB.out]; simp [b2])])
          have d2 : decide (mn < 1) = true := by simpa using b2
          clear HS HB
          go_wp2
          go_ret2
          exact applyP_bad HR.out rfl hbx
        have d2 : decide (mn < 1) = false := by simpa using b2
        by_cases b3 : (la : Int) < mn
        · have HR := hid (show applyL a la ps [] = ([], 80) by rw [HS.out]; show (if _ then _ else _) = _; rw [if_pos (by rw [HB.out]; simp [b3])])
          have d3 : decide ((la : Int) < mn) = true := by simpa using b3
          clear HS HB
          go_wp2
          go_ret2
          exact applyP_bad HR.out rfl hbx
        have d3 : decide ((la : Int) < mn) = false := by simpa using b3
        obtain ⟨r, rfl⟩ : ∃ r : Nat, fr = r := ⟨fr.toNat, by omega⟩
        obtain ⟨q, rfl⟩ : ∃ q : Nat, mn = q := ⟨mn.toNat, by omega⟩
        by_cases b4 : (la : Int) - (q : Int) < (r : Int)
        · have HR := hid (show applyL a la ps [] = ([], 80) by rw [HS.out]; show (if _ then _ else _) = _; rw [if_pos (by rw [HB.out]; simp [b4])])
          have d4 : decide ((la : Int) - (q : Int) < (r : Int)) = true := by simpa using b4
          clear HS HB
          go_wp2
          go_ret2
          exact applyP_bad HR.out rfl hbx
        have d4 : decide ((la : Int) - (q : Int) < (r : Int)) = false := by simpa using b4
        have hrq : r + q ≤ la := by omega
        have hq1 : 1 ≤ q := by omega
        have HW : Hid (wordsOf a ((r : Int), (q : Int), []) = (List.range q).map fun j => a (r + j)) := by unfold Hid wordsOf; rw [if_pos rfl]; simp
        have HG : Hid (badPc la ((r : Int), (q : Int), []) = false) := by show _ = _; rw [HB.out, d1, d2, d3, d4]; rfl
        clear HB
        obtain ⟨pb, pq, rfl, _⟩ := ha 0 (by omega)
        have e1 : r + q - r = q := by omega
        have hrc : ca ≠ r := by omega
        obtain ⟨W, hW⟩ : ∃ W, ((List.range q).map fun j => a (r + j)) = W := ⟨_, rfl⟩
        have hWl : W.length = q := by rw [← hW]; simp
        have hnews := news_vu (xs := W) (n := q) (by rw [← hW]; exact row_part hax hrq) (by omega)
        rw [hW] at HW
        clear hW
        have HWL := hid hWl
        by_cases b5 : 4096 - ws.length < q
        · have HR := hid (show applyL a la ps [] = ([], 64) by rw [HS.out]; show (if _ then _ else if _ then _ else _) = _; rw [if_neg (by rw [HG.out]; simp), if_pos (by rw [HW.out, HWL.out]; exact b5)])
          have d5 : decide ((4096 : Int) - (ws.length : Int) < (q : Int)) = true := by simp; omega
          clear HS HG HW hWl
          go_wp2
          go_ret2
          exact applyP_bad HR.out rfl hbx
        · have HR := hid (show applyL a la ps [] = applyL a la (ps.drop (i + 1)) (ws ++ W) by rw [HS.out]; show (if _ then _ else if _ then _ else _) = _; rw [if_neg (by rw [HG.out]; simp), if_neg (by rw [HW.out, HWL.out]; exact b5), HW.out])
          have d5 : decide ((4096 : Int) - (ws.length : Int) < (q : Int)) = false := by simp; omega
          have HLN := hid (show (vu W).length = (r + q - r) * 1 by rw [vu_length]; omega)
          clear HS HG HW hWl
          go_wp2_with (at_builtin; refine wpList_append_own _ rfl _ _ 71 rfl w.heap.size 72 i0 (.int .u32 0) 1 4 Try.underlying71 hi hz0 hz1 hz2 rfl (by decide) (.slice oa ws.length oc) ws.length (vu ws) rfl hownx ⟨pb, pq + r, none⟩ (r + q - r) _ (vu W) rfl HLN.out hnews (vu_one _) (by unfold maxLen; omega) (by omega) hsz.out ?_; intro v' w1 hown1 hgrow _)
          go_roundw
          case rel => exact ⟨i + 1, ws ++ W, by go_num, hlt, by have := HWL.out; simp; omega, HR.out, by rw [List.length_append, vu_append, HWL.out]; rw [e1] at hown1; exact hown1, hbx.grown hgrow hsz.out fun j hj => (hownx.lt j hj).1⟩
          case measure => simp [intOf]; omega
      · have hne : fs ≠ [] := fun e => by rw [e] at h0; cases h0
        have hd : ((fs.length : Int) == 0) = false := beq_eq_false_iff_ne.2 (by omega)
        have HB : Hid (badPc la (fr, mn, fs) = (decide (fr ≠ 0) || decide (mn ≠ 0))) := if_neg hne
        have HW : Hid (wordsOf a (fr, mn, fs) = fs) := if_neg hne
        by_cases b1 : fr = 0
        · by_cases b2 : mn = 0
          · have HG : Hid (badPc la (fr, mn, fs) = false) := by show _ = _; rw [HB.out]; simp [b1, b2]
            subst b1
            subst b2
            obtain ⟨pb, pq, hva, _⟩ := hrw 0 h0
            rw [hva] at c2 hrw hrwx hbx hsz hownx
            have hnews := news_vu hrwx (Nat.le_refl _)
            by_cases b5 : 4096 - ws.length < fs.length
            · have HR := hid (show applyL a la ps [] = ([], 64) by rw [HS.out]; show (if _ then _ else if _ then _ else _) = _; rw [if_neg (by rw [HG.out]; simp), if_pos (by rw [HW.out]; exact b5)])
              have d5 : decide ((4096 : Int) - (ws.length : Int) < (fs.length : Int)) = true := by simp; omega
              clear HS HG HW HB
              go_wp2
              go_ret2
              exact applyP_bad HR.out rfl hbx
            · have HR := hid (show applyL a la ps [] = applyL a la (ps.drop (i + 1)) (ws ++ fs) by rw [HS.out]; show (if _ then _ else if _ then _ else _) = _; rw [if_neg (by rw [HG.out]; simp), if_neg (by rw [HW.out]; exact b5), HW.out])
              have d5 : decide ((4096 : Int) - (ws.length : Int) < (fs.length : Int)) = false := by simp; omega
              clear HS HG HW HB
              have HLN := hid (show (vu fs).length = fs.length * 1 by rw [vu_length]; omega)
              go_wp2_with (at_builtin; refine wpList_append_own _ rfl _ _ 71 rfl w.heap.size 72 i0 (.int .u32 0) 1 4 Try.underlying71 hi hz0 hz1 hz2 rfl (by decide) (.slice oa ws.length oc) ws.length (vu ws) rfl hownx ⟨pb, pq, none⟩ fs.length _ (vu fs) rfl HLN.out hnews (vu_one _) (by unfold maxLen; omega) (by omega) hsz.out ?_; intro v' w1 hown1 hgrow _)
              go_roundw
              case rel => exact ⟨i + 1, ws ++ fs, by go_num, hlt, by simp; omega, HR.out, by rw [List.length_append, vu_append]; exact hown1, hbx.grown hgrow hsz.out fun j hj => (hownx.lt j hj).1⟩
              case measure => simp [intOf]; omega
          · have HR := hid (show applyL a la ps [] = ([], 80) by rw [HS.out]; show (if _ then _ else _) = _; rw [if_pos (by rw [HB.out]; simp [b2])])
            have d2 : (mn != 0) = true := by simpa using b2
            subst b1
            clear HS HB HW
            go_wp2
            go_ret2
            exact applyP_bad HR.out rfl hbx
        · have HR := hid (show applyL a la ps [] = ([], 80) by rw [HS.out]; show (if _ then _ else _) = _; rw [if_pos (by rw [HB.out]; simp [b1])])
          have d2 : (fr != 0) = true := by simpa using b1
          clear HS HB HW
          go_wp2
          go_ret2
          exact applyP_bad HR.out rfl hbx
    · obtain rfl : i = n := by omega
      have HE := hid (show applyL a la ps [] = (ws, 0) by rw [HO.out, List.drop_eq_nil_of_le (by have := HNN.out; omega)]; rfl)
      clear HO
      have t0 : decide ((i : Int) < (i : Int)) = false := by simp
      go_wp2
      go_ret2
      exact ⟨_, by rw [HE.out]; rfl, by rw [HE.out]; exact hown, hbr⟩
end Go.Proofs.Ytgelgpcpllmnkaa
