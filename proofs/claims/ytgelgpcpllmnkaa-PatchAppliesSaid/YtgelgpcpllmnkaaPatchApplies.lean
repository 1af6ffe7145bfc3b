/-
  The document's Apply; the walk of PatchApplies.
-/
import Derived.Test.YtgelgpcpllmnkaaPatchBack
import Derived.Test.YtgelgpcpllmnkaaNest
import Derived.Test.YtgelgpcpllmnkaaStage
namespace Go.Proofs.Ytgelgpcpllmnkaa
open Go.RowKit
set_option maxRecDepth 100000 in
set_option maxHeartbeats 4000000 in
theorem refApply_any (ao po : Option Addr) (la ca cp : Nat) (a : Nat → Int) (ps : List Pc) (va : Nat → Option Addr) (vc : Nat → Nat) (w : World) (ha : Row w ao la (fun j => .int .u32 (a j))) (hp : PcsAt w po ps va vc)
    (hla : la ≤ 4096) (hca : la ≤ ca) (hcam : ca ≤ maxLen) (hn : ps.length ≤ 10000) (hfs : ∀ p ∈ ps, p.2.2.length ≤ 10000) :
    Calls Try.prog 48 #[.slice ao la ca, .slice po ps.length cp] w fun e w' => ApplyP (applyL a la ps []) w e w' := by
  obtain ⟨i0, hi, hz0, hz1, hz2⟩ := info_parts infoU
  obtain ⟨n, hnn⟩ : ∃ n, ps.length = n := ⟨_, rfl⟩
  have HNN := hid hnn
  rw [hnn] at hn ⊢
  clear hnn
  go_enter Try.func48, Try.ntmps48
  go_wp2
  go_loopw [6, 7, 8] (fun out ix _ wr => ∃ (i : Nat) (ws : List Int), ix = .int .i64 i ∧ i ≤ n ∧ ws.length ≤ 4096 ∧ Hid (applyL a la ps [] = applyL a la (ps.drop i) ws) ∧ wr.ownsRow w.heap.size 72 1 out ws.length (vu ws) ∧ Below w.heap.size w wr) (fun _ ix _ _ => n - (intOf ix).toNat)
  case atStart => exact ⟨0, [], rfl, Nat.zero_le _, Nat.zero_le _, rfl, World.ownsRow_nil _ _ _ _, Below.refl _ _⟩
  case round =>
    obtain ⟨i, ws, rfl, hin, hwl, HO, hown, hbr⟩ := hrel
    rcases Nat.lt_or_ge i n with hlt | hge
    · have t0 : decide ((i : Int) < (n : Int)) = true := by simp; omega
      have hil : i < ps.length := by have := HNN.out; omega
      have HS := hid (show applyL a la ps [] = applyL a la (ps[i] :: ps.drop (i + 1)) ws by rw [HO.out, drop_on hil])
      have hf := hfs ps[i] (List.getElem_mem _)
      clear HO
      obtain ⟨b, o, rfl, ⟨c0, c1, c2⟩, hrw, hvc1, hvc2⟩ := (hp.below hbr) i hil
      obtain ⟨p, hpp⟩ : ∃ p, ps[i] = p := ⟨_, rfl⟩
      rw [hpp] at HS c0 c1 c2 hrw hvc1 hf
      clear hpp
      obtain ⟨fr, mn, fs⟩ := p
      dsimp only at c0 c1 c2 hrw hvc1 hf
      have hbx := hbr.alloc hbr.size (Obj.cells #[.int .i64 fr, .int .i64 mn, .slice (va i) fs.length (vc i)] 89)
      have hownx := hown.alloc (Obj.cells #[.int .i64 fr, .int .i64 mn, .slice (va i) fs.length (vc i)] 89)
      have hrwx := hrw.alloc (Obj.cells #[.int .i64 fr, .int .i64 mn, .slice (va i) fs.length (vc i)] 89)
      have hax := ha.below hbx
      have hsz := hid hbx.size
      obtain ⟨oa, oc, rfl, hol, hocm, _⟩ := vu_view hown
      rcases Nat.eq_zero_or_pos fs.length with h0 | h0
      · obtain rfl : fs = [] := List.eq_nil_of_length_eq_zero h0
        have HB : Hid (badPc la (fr, mn, []) = (decide (fr < 0) || decide (mn < 1) || decide ((la : Int) < mn) || decide ((la : Int) - mn < fr))) := rfl
        have bad : fr < 0 ∨ mn < 1 ∨ (la : Int) ≤ fr ∨ (la : Int) - fr < mn → Hid (applyL a la ps [] = ([], 80)) := fun h => by
          show _ = _
          rw [HS.out]
          show (if _ then _ else _) = _
          rw [if_pos (by rw [HB.out]; simp; omega)]
        have HBAD := hid bad
        clear bad
        by_cases b1 : fr < 0
        · have HR := HBAD.out (.inl b1)
          have d1 : decide (fr < 0) = true := by simpa using b1
          clear HS HB HBAD
          go_wp2
          go_ret2
          exact applyP_bad HR.out rfl hbx
        have d1 : decide (fr < 0) = false := by simpa using b1
        by_cases b2 : mn < 1
        · have HR := HBAD.out (.inr (.inl b2))
          have d2 : decide (mn < 1) = true := by simpa using b2
          clear HS HB HBAD
          go_wp2
          go_ret2
          exact applyP_bad HR.out rfl hbx
        have d2 : decide (mn < 1) = false := by simpa using b2
        by_cases b3 : (la : Int) ≤ fr
        · have HR := HBAD.out (.inr (.inr (.inl b3)))
          have d3 : decide ((la : Int) ≤ fr) = true := by simpa using b3
          clear HS HB HBAD
          go_wp2
          go_ret2
          exact applyP_bad HR.out rfl hbx
        have d3 : decide ((la : Int) ≤ fr) = false := decide_eq_false b3
        obtain ⟨r, rfl⟩ : ∃ r : Nat, fr = r := ⟨fr.toNat, by omega⟩
        obtain ⟨q, rfl⟩ : ∃ q : Nat, mn = q := ⟨mn.toNat, by omega⟩
        by_cases b4 : (la : Int) - (r : Int) < (q : Int)
        · have HR := HBAD.out (.inr (.inr (.inr b4)))
          have d4 : decide ((la : Int) - (r : Int) < (q : Int)) = true := by simpa using b4
          clear HS HB HBAD
          go_wp2
          go_ret2
          exact applyP_bad HR.out rfl hbx
        have d4 : decide ((la : Int) - (r : Int) < (q : Int)) = false := decide_eq_false b4
        have hrq : r + q ≤ la := by omega
        have hq1 : 1 ≤ q := by omega
        have HW : Hid (wordsOf a ((r : Int), (q : Int), []) = (List.range q).map fun j => a (r + j)) := by unfold Hid wordsOf; rw [if_pos rfl]; simp
        have HG : Hid (badPc la ((r : Int), (q : Int), []) = false) := by show _ = _; rw [HB.out]; simp; omega
        clear HB HBAD
        obtain ⟨pb, pq, rfl, _⟩ := ha 0 (by omega)
        have e1 : r + q - r = q := by omega
        have hrc : ca ≠ r := by omega
        obtain ⟨W, hW⟩ : ∃ W, ((List.range q).map fun j => a (r + j)) = W := ⟨_, rfl⟩
        have hWl : W.length = q := by rw [← hW]; simp
        have hnews := news_vu (xs := W) (n := q) (by rw [← hW]; exact row_part hax hrq) (by omega)
        rw [hW] at HW
        clear hW
        have HWL := hid hWl
        have HLN := hid (show (vu W).length = (r + q - r) * 1 by rw [vu_length]; omega)
        clear hWl
        by_cases b5 : 4096 - ws.length < q
        · have HR := hid (show applyL a la ps [] = ([], 64) by rw [HS.out]; show (if _ then _ else if _ then _ else _) = _; rw [if_neg (by rw [HG.out]; simp), if_pos (by rw [HW.out, HWL.out]; exact b5)])
          have d5 : decide (4096 < (ws.length : Int) + (W.length : Int)) = true := decide_eq_true (by have := HWL.out; omega)
          clear HS HG HW
          go_wp2_with (at_builtin; refine wpList_append_own _ rfl _ _ 71 rfl w.heap.size 72 i0 (.int .u32 0) 1 4 Try.underlying71 hi hz0 hz1 hz2 rfl (by decide) (.slice oa ws.length oc) ws.length (vu ws) rfl hownx ⟨pb, pq + r, none⟩ (r + q - r) _ (vu W) rfl HLN.out hnews (vu_one _) (by unfold maxLen; omega) (by omega) hsz.out ?_; intro v' w1 hown1 hgrow _; obtain ⟨ob, od, rfl, hol1, hocm1, _⟩ := vu_view (xs := ws ++ W) (by rw [List.length_append, vu_append, HWL.out, ← e1]; exact hown1))
          go_ret2
          exact applyP_bad HR.out rfl (hbx.grown hgrow hsz.out fun j hj => (hownx.lt j hj).1)
        · have HR := hid (show applyL a la ps [] = applyL a la (ps.drop (i + 1)) (ws ++ W) by rw [HS.out]; show (if _ then _ else if _ then _ else _) = _; rw [if_neg (by rw [HG.out]; simp), if_neg (by rw [HW.out, HWL.out]; exact b5), HW.out])
          have d5 : decide (4096 < (ws.length : Int) + (W.length : Int)) = false := decide_eq_false (by have := HWL.out; omega)
          clear HS HG HW
          go_wp2_with (at_builtin; refine wpList_append_own _ rfl _ _ 71 rfl w.heap.size 72 i0 (.int .u32 0) 1 4 Try.underlying71 hi hz0 hz1 hz2 rfl (by decide) (.slice oa ws.length oc) ws.length (vu ws) rfl hownx ⟨pb, pq + r, none⟩ (r + q - r) _ (vu W) rfl HLN.out hnews (vu_one _) (by unfold maxLen; omega) (by omega) hsz.out ?_; intro v' w1 hown1 hgrow _; obtain ⟨ob, od, rfl, hol1, hocm1, _⟩ := vu_view (xs := ws ++ W) (by rw [List.length_append, vu_append, HWL.out, ← e1]; exact hown1))
          go_roundw
          case rel => exact ⟨i + 1, ws ++ W, by go_num, hlt, by have := HWL.out; simp; omega, HR.out, by rw [vu_append, List.length_append]; rw [e1, ← HWL.out, List.length_append] at hown1; exact hown1, hbx.grown hgrow hsz.out fun j hj => (hownx.lt j hj).1⟩
          case measure => simp [intOf]; omega
      · have hne : fs ≠ [] := fun e => by rw [e] at h0; cases h0
        have hd : decide (0 < (fs.length : Int)) = true := decide_eq_true (by omega)
        have HB : Hid (badPc la (fr, mn, fs) = (decide (fr ≠ 0) || decide (mn ≠ 0))) := if_neg hne
        have HW : Hid (wordsOf a (fr, mn, fs) = fs) := if_neg hne
        by_cases b1 : fr = 0
        · by_cases b2 : mn = 0
          · have HG : Hid (badPc la (fr, mn, fs) = false) := by show _ = _; rw [HB.out]; simp [b1, b2]
            subst b1
            subst b2
            obtain ⟨pb, pq, hva, _⟩ := hrw 0 h0
            rw [hva] at c2 hrw hrwx hbx hsz hownx
            have hnews := news_vu hrwx (Nat.le_refl _)
            have HLN := hid (show (vu fs).length = fs.length * 1 by rw [vu_length]; omega)
            by_cases b5 : 4096 - ws.length < fs.length
            · have HR := hid (show applyL a la ps [] = ([], 64) by rw [HS.out]; show (if _ then _ else if _ then _ else _) = _; rw [if_neg (by rw [HG.out]; simp), if_pos (by rw [HW.out]; exact b5)])
              have d5 : decide (4096 < (ws.length : Int) + (fs.length : Int)) = true := decide_eq_true (by omega)
              clear HS HG HW HB
              go_wp2_with (at_builtin; refine wpList_append_own _ rfl _ _ 71 rfl w.heap.size 72 i0 (.int .u32 0) 1 4 Try.underlying71 hi hz0 hz1 hz2 rfl (by decide) (.slice oa ws.length oc) ws.length (vu ws) rfl hownx ⟨pb, pq, none⟩ fs.length _ (vu fs) rfl HLN.out hnews (vu_one _) (by unfold maxLen; omega) (by omega) hsz.out ?_; intro v' w1 hown1 hgrow _; obtain ⟨ob, od, rfl, hol1, hocm1, _⟩ := vu_view (xs := ws ++ fs) (by rw [List.length_append, vu_append]; exact hown1))
              go_ret2
              exact applyP_bad HR.out rfl (hbx.grown hgrow hsz.out fun j hj => (hownx.lt j hj).1)
            · have HR := hid (show applyL a la ps [] = applyL a la (ps.drop (i + 1)) (ws ++ fs) by rw [HS.out]; show (if _ then _ else if _ then _ else _) = _; rw [if_neg (by rw [HG.out]; simp), if_neg (by rw [HW.out]; exact b5), HW.out])
              have d5 : decide (4096 < (ws.length : Int) + (fs.length : Int)) = false := decide_eq_false (by omega)
              clear HS HG HW HB
              go_wp2_with (at_builtin; refine wpList_append_own _ rfl _ _ 71 rfl w.heap.size 72 i0 (.int .u32 0) 1 4 Try.underlying71 hi hz0 hz1 hz2 rfl (by decide) (.slice oa ws.length oc) ws.length (vu ws) rfl hownx ⟨pb, pq, none⟩ fs.length _ (vu fs) rfl HLN.out hnews (vu_one _) (by unfold maxLen; omega) (by omega) hsz.out ?_; intro v' w1 hown1 hgrow _; obtain ⟨ob, od, rfl, hol1, hocm1, _⟩ := vu_view (xs := ws ++ fs) (by rw [List.length_append, vu_append]; exact hown1))
              go_roundw
              case rel => exact ⟨i + 1, ws ++ fs, by go_num, hlt, by simp; omega, HR.out, by rw [vu_append, List.length_append]; rw [List.length_append] at hown1; exact hown1, hbx.grown hgrow hsz.out fun j hj => (hownx.lt j hj).1⟩
              case measure => simp [intOf]; omega
          · have HR := hid (show applyL a la ps [] = ([], 80) by rw [HS.out]; show (if _ then _ else _) = _; rw [if_pos (by rw [HB.out]; simp [b2])])
            have d2 : (mn != 0) = true := by simpa using b2
            subst b1
            clear HS HB HW
            go_wp2
            go_ret2
            exact applyP_bad HR.out rfl hbx
        · have HR := hid (show applyL a la ps [] = ([], 80) by rw [HS.out]; show (if _ then _ else _) = _; rw [if_pos (by rw [HB.out]; simp [b1])])
          have d2 : (fr != 0) = true := by simpa using b1
          clear HS HB HW
          go_wp2
          go_ret2
          exact applyP_bad HR.out rfl hbx
    · obtain rfl : i = n := by omega
      have HE := hid (show applyL a la ps [] = (ws, 0) by rw [HO.out, List.drop_eq_nil_of_le (by have := HNN.out; omega)]; rfl)
      clear HO
      have t0 : decide ((i : Int) < (i : Int)) = false := by simp
      go_wp2
      go_ret2
      exact ⟨_, by rw [HE.out]; rfl, by rw [HE.out]; exact hown, hbr⟩
theorem applyL_len (a : Nat → Int) (la : Nat) : ∀ (ps : List Pc) (out : List Int), out.length ≤ 4096 → (applyL a la ps out).1.length ≤ 4096
  | [], out, h => h
  | p :: ps, out, h => by
    show (if _ then _ else if _ then _ else _ : List Int × Int).1.length ≤ 4096
    split
    · exact Nat.zero_le _
    · split
      · exact Nat.zero_le _
      · exact applyL_len a la ps _ (by rw [List.length_append]; omega)
/-- The pieces as they are copied. -/
def copied (ps : List Pc) (va : Nat → Option Addr) (vc : Nat → Nat) (k : Nat) : List (Pc × Value) := (List.range k).map fun i => (ps.getD i (0, 0, []), .slice (va i) (ps.getD i (0, 0, [])).2.2.length (vc i))
theorem copied_succ (ps : List Pc) (va : Nat → Option Addr) (vc : Nat → Nat) (k : Nat) : copied ps va vc (k + 1) = copied ps va vc k ++ [(ps.getD k (0, 0, []), .slice (va k) (ps.getD k (0, 0, [])).2.2.length (vc k))] := by
  unfold copied; rw [List.range_succ, List.map_append]; rfl
theorem copied_length (ps : List Pc) (va : Nat → Option Addr) (vc : Nat → Nat) (k : Nat) : (copied ps va vc k).length = k := by simp [copied]
theorem pcs_copied {W : World} {B : Nat} {po : Option Addr} {v : Value} {ps : List Pc} {va : Nat → Option Addr} {vc : Nat → Nat} {e : TypeId} (h : W.ownsRow B e 3 v ps.length (cellsP (copied ps va vc ps.length))) (hp : PcsAt W po ps va vc) :
    ∃ ao c, v = .slice ao ps.length c ∧ PcsAt W ao ps va vc := by
  rcases h.2 with ⟨e, h2⟩ | ⟨g, cap, cur, e, _, _, _⟩
  · rw [e, h2]
    exact ⟨none, 0, rfl, fun i hi => by omega⟩
  · subst e
    refine ⟨_, _, rfl, fun i hi => ?_⟩
    have hil : i < (copied ps va vc ps.length).length := by rw [copied_length]; exact hi
    have hg : ∀ j, j < 3 → W.cell? ⟨g, 0 + i * 3 + j, none⟩ = (cellsOfPc (copied ps va vc ps.length)[i])[j]? := fun j hj => by
      rw [Nat.zero_add, h.cellAt (i * 3 + j) (by omega), cellsP_get _ i hil j hj]
    have e1 : (copied ps va vc ps.length)[i]? = some (ps[i], .slice (va i) (ps[i]).2.2.length (vc i)) := by simp [copied, hi]
    have e0 : (copied ps va vc ps.length)[i] = (ps[i], .slice (va i) (ps[i]).2.2.length (vc i)) := Option.some.inj ((List.getElem?_eq_getElem hil).symm.trans e1)
    rw [e0] at hg
    obtain ⟨_, _, _, _, h4, h5⟩ := hp i hi
    exact ⟨g, 0, rfl, ⟨hg 0 (by decide), hg 1 (by decide), hg 2 (by decide)⟩, h4, h5⟩
theorem infoR : (Try.prog.info? 89).map (fun i => (i.zero, i.size, i.bytes)) = some (some (.agg #[.int .i64 0, .int .i64 0, .slice none 0 0]), 3, 40) := by kernel_rfl
theorem pcs_at {w : World} {ao : Option Addr} {ps : List Pc} {va : Nat → Option Addr} {vc : Nat → Nat} (h : PcsAt w ao ps va vc) {i : Nat} (hi : i < ps.length) : ∃ b o, ao = some ⟨b, o, none⟩ ∧
    (w.cell? ⟨b, o + i * 3, none⟩ = some (.int .i64 (ps.getD i (0, 0, [])).1) ∧ w.cell? ⟨b, o + i * 3 + 1, none⟩ = some (.int .i64 (ps.getD i (0, 0, [])).2.1) ∧ w.cell? ⟨b, o + i * 3 + 2, none⟩ = some (.slice (va i) (ps.getD i (0, 0, [])).2.2.length (vc i))) := by
  obtain ⟨b, o, e, h1, _⟩ := h i hi
  refine ⟨b, o, e, ?_⟩
  rw [show ps.getD i (0, 0, []) = ps[i] by simp [List.getD, hi]]
  exact h1
section
attribute [local go_sem] Oper.quietS Oper.effS effUpon Drawn
set_option maxRecDepth 100000 in
set_option maxHeartbeats 4000000 in
theorem patchApplies_walk (ao po : Option Addr) (la ca cp : Nat) (a : Nat → Int) (ps : List Pc) (va : Nat → Option Addr) (vc : Nat → Nat) (w : World) (ha : Row w ao la (fun j => .int .u32 (a j))) (hp : PcsAt w po ps va vc)
    (hca : la ≤ ca) (hcam : ca ≤ maxLen) (hpc : ps.length ≤ cp) (hpm : cp ≤ maxLen) :
    Calls Try.prog 12 #[.slice ao la ca, .slice po ps.length cp] w fun e w' => e = .returned (.bool true) ∧ Below w.heap.size w w' := by
  obtain ⟨n, hnn⟩ : ∃ n, ps.length = n := ⟨_, rfl⟩
  have HNN := hid hnn
  rw [hnn] at hpc ⊢
  clear hnn
  by_cases h1 : 4096 < la
  · have d1 : decide (4096 < (la : Int)) = true := by simp; omega
    go_enter Try.func12, Try.ntmps12
    go_wp2
    go_ret
    exact ⟨rfl, Below.refl _ _⟩
  · have d1 : decide (4096 < (la : Int)) = false := by simp; omega
    by_cases h2 : 50 < n
    · have d2 : decide (50 < (n : Int)) = true := by simp; omega
      go_enter Try.func12, Try.ntmps12
      go_wp2
      go_ret
      exact ⟨rfl, Below.refl _ _⟩
    · have d2 : decide (50 < (n : Int)) = false := by simp; omega
      obtain ⟨o0, ho, hy0, hy1, hy2⟩ := info_parts infoR
      go_enter Try.func12, Try.ntmps12
      go_wp2
      go_loopw [5, 6, 7] (fun m_ s_ i_ wr => ∃ k s : Nat, i_ = .int .i64 k ∧ s_ = .int .i64 s ∧ k ≤ n ∧ s ≤ k * 2002 ∧ Hid (s = sizeL (ps.take k)) ∧ Hid (∀ j, j < k → (ps.getD j (0, 0, [])).2.2.length ≤ 2000) ∧ wr.ownsRow w.heap.size 89 3 m_ k (cellsP (copied ps va vc k)) ∧ Below w.heap.size w wr) (fun _ _ i_ _ => n - (intOf i_).toNat)
      case atStart => exact ⟨0, 0, rfl, rfl, Nat.zero_le _, Nat.zero_le _, rfl, fun j hj => by omega, World.ownsRow_nil _ _ _ _, Below.refl _ _⟩
      case round =>
        obtain ⟨k, s, rfl, rfl, hk, hs, HS, HF, hown, hbr⟩ := hrel
        rcases Nat.lt_or_ge k n with hlt | hge
        · have t0 : decide ((k : Int) < (n : Int)) = true := by simp; omega
          have hkl : k < ps.length := by have := HNN.out; omega
          have HC := hid (show cellsP (copied ps va vc (k + 1)) = cellsP (copied ps va vc k) ++ [.int .i64 (ps.getD k (0, 0, [])).1, .int .i64 (ps.getD k (0, 0, [])).2.1, .slice (va k) (ps.getD k (0, 0, [])).2.2.length (vc k)] by rw [copied_succ, cellsP_snoc]; rfl)
          have HT := hid (show sizeL (ps.take (k + 1)) = s + sizePc (ps.getD k (0, 0, [])) by rw [List.take_succ_eq_append_getElem hkl, sizeL_snoc, HS.out]; simp [List.getD, hkl])
          have HF2 : Hid ((ps.getD k (0, 0, [])).2.2.length ≤ 2000 → ∀ j, j < k + 1 → (ps.getD j (0, 0, [])).2.2.length ≤ 2000) := fun h j hj => by
            rcases Nat.lt_or_ge j k with h3 | h3
            · exact HF.out j h3
            · obtain rfl : j = k := by omega
              exact h
          clear HS HF
          obtain ⟨b, o, rfl, _, _, c2w⟩ := pcs_at hp hkl
          obtain ⟨b', o', e', c0, c1, c2⟩ := pcs_at (hp.below hbr) hkl
          cases e'
          obtain ⟨p, hpp⟩ : ∃ p, ps.getD k (0, 0, []) = p := ⟨_, rfl⟩
          rw [hpp] at HC HT HF2 c0 c1 c2 c2w
          clear hpp
          obtain ⟨fr, mn, fs⟩ := p
          dsimp only at c0 c1 c2 c2w
          have HP := hid (show sizePc (fr, mn, fs) = 2 + (fs.length - 1) from rfl)
          obtain ⟨l, hl⟩ : ∃ l, fs.length = l := ⟨_, rfl⟩
          have HF3 : Hid (l ≤ 2000 → ∀ j, j < k + 1 → (ps.getD j (0, 0, [])).2.2.length ≤ 2000) := fun h => HF2.out (by rw [hl]; exact h)
          have HC3 : Hid (cellsP (copied ps va vc (k + 1)) = cellsP (copied ps va vc k) ++ [.int .i64 fr, .int .i64 mn, .slice (va k) l (vc k)]) := by rw [← hl]; exact HC
          rw [hl] at HP c2 c2w
          clear HF2 HC hl
          by_cases h3 : 2000 < l
          · have d3 : decide (2000 < (l : Int)) = true := by simp; omega
            go_wp2
            go_ret
            exact ⟨rfl, hbr⟩
          · have d3 : decide (2000 < (l : Int)) = false := by simp; omega
            obtain ⟨Ws, hWs⟩ : ∃ Ws, Ws = two wr (Obj.cells #[.int .i64 fr, .int .i64 mn, .slice (va k) l (vc k)] 89) := ⟨_, rfl⟩
            have e0 : ∀ s, (Ws s).cell? ⟨b, o + k * 3, none⟩ = some (.int .i64 fr) := fun s => by rw [hWs]; exact cell_two c0 _ _
            have e1 : ∀ s, (Ws s).cell? ⟨b, o + k * 3 + 1, none⟩ = some (.int .i64 mn) := fun s => by rw [hWs]; exact cell_two c1 _ _
            have e2 : ∀ s, (Ws s).cell? ⟨b, o + k * 3 + 2, none⟩ = some (.slice (va k) l (vc k)) := fun s => by rw [hWs]; exact cell_two c2 _ _
            have HW := hid hWs
            clear hWs
            go_wp2
            refine wp_region_stage 18 (Drawn Ws) (by kernel_rfl) (by kernel_rfl) (Drawn.start _ _ (by rw [HW.out]; rfl)) ?_
            simp only [List.take_succ_cons, List.take_zero, List.drop_succ_cons, List.drop_zero]
            repeat (refine wpStg_quiet (by rfl) (by rfl) (fun K hK => ?_); go_simp; (refine hK _ ?_; clear hK K))
            refine wpStg_eff (by rfl) (by rfl) (fun K hK => ?_)
            go_simp
            refine ⟨_, fun n => ⟨rfl, n, by rw [HW.out]; rfl⟩, hK _ ?_⟩
            clear hK K
            refine wpStg_nil ?_
            rintro _ ⟨nq, rfl⟩
            rw [show Ws 1 = wr.alloc _ by rw [HW.out]; rfl, show Ws 0 = wr by rw [HW.out]; rfl]
            obtain ⟨W, hW⟩ : ∃ W, W = (wr.alloc (Obj.cells #[Value.int .i64 fr, .int .i64 mn, .slice (va k) l (vc k)] 89)).drewN nq := ⟨_, rfl⟩
            have hownW : W.ownsRow w.heap.size 89 3 u5 k (cellsP (copied ps va vc k)) := by rw [hW]; exact hown.alloc _
            have bW : Below w.heap.size w W := by rw [hW]; exact (hbr.alloc hbr.size _).trans ⟨rfl, rfl, rfl, Nat.le_refl _, fun _ _ => rfl⟩
            have hnews : ∀ (j : Nat) (u : Value), [Value.int .i64 fr, .int .i64 mn, .slice (va k) l (vc k)][j]? = some u → W.cell? ((⟨wr.heap.size, 0, none⟩ : Addr).add j) = some u := fun j u hj => by
              rw [add_off, hW, Nat.zero_add]
              show (wr.alloc _).cell? _ = _
              rw [World.cell?_alloc_at _ _ _ _ rfl]; simpa using hj
            rw [← hW]
            have hsz := hid bW.size
            clear hW HW e0 e1 e2 c0 c1 Ws
            have hcw := cell_lt c2w
            rcases Nat.eq_zero_or_pos l with h0 | h0
            · subst h0
              go_wp2_with (at_builtin; refine wpList_append_own _ rfl _ _ 85 rfl w.heap.size 89 o0 (.agg #[.int .i64 0, .int .i64 0, .slice none 0 0]) 3 40 Try.underlying85 ho hy0 hy1 hy2 rfl (by decide) u5 k (cellsP (copied ps va vc k)) rfl hownW ⟨wr.heap.size, 0, none⟩ 1 1 _ rfl (by simp) hnews (by simp [Value.oneCell']) (by unfold maxLen; omega) (by omega) hsz.out ?_; intro v' w3 hown3 hgrow _; have b3 := bW.grown hgrow hsz.out fun j hj => (hownW.lt j hj).1; have g3 := (b3.cell hcw).trans c2w)
              go_roundw
              case rel => exact ⟨k + 1, s + 2, by go_num, by go_num, hlt, by omega, by show _ = _; rw [HT.out, HP.out], HF3.out (by omega), by rw [HC3.out]; exact hown3, b3⟩
              case measure => simp [intOf]; omega
            · have d0 : decide (0 < (l : Int)) = true := by simp; omega
              go_wp2_with (at_builtin; refine wpList_append_own _ rfl _ _ 85 rfl w.heap.size 89 o0 (.agg #[.int .i64 0, .int .i64 0, .slice none 0 0]) 3 40 Try.underlying85 ho hy0 hy1 hy2 rfl (by decide) u5 k (cellsP (copied ps va vc k)) rfl hownW ⟨wr.heap.size, 0, none⟩ 1 1 _ rfl (by simp) hnews (by simp [Value.oneCell']) (by unfold maxLen; omega) (by omega) hsz.out ?_; intro v' w3 hown3 hgrow _; have b3 := bW.grown hgrow hsz.out fun j hj => (hownW.lt j hj).1; have g3 := (b3.cell hcw).trans c2w)
              go_roundw
              case rel => exact ⟨k + 1, s + 2 + (l - 1), by go_num, by go_num, hlt, by omega, by show _ = _; rw [HT.out, HP.out, Nat.add_assoc], HF3.out (by omega), by rw [HC3.out]; exact hown3, b3⟩
              case measure => simp [intOf]; omega
        · obtain rfl : k = n := by omega
          have HS2 := hid (show sizeL ps = s by rw [HS.out, List.take_of_length_le (by have := HNN.out; omega)])
          have hfs : ∀ p ∈ ps, p.2.2.length ≤ 10000 := fun p hp => by
            obtain ⟨j, hj, rfl⟩ := List.getElem_of_mem hp
            have := HF.out j (by have := HNN.out; omega)
            rw [show ps.getD j (0, 0, []) = ps[j] by simp [List.getD, hj]] at this
            omega
          have HFS := hid hfs
          clear hfs HS HF
          have hown2 : wr.ownsRow w.heap.size 89 3 u5 ps.length (cellsP (copied ps va vc ps.length)) := by rw [HNN.out]; exact hown
          obtain ⟨mo, mc, rfl, hpm2⟩ := pcs_copied hown2 (hp.below hbr)
          clear hown hown2
          have HA := hid (apply_any ao po la ca cp a ps va vc wr (ha.below hbr) (hp.below hbr) (by omega) hca hcam (by have := HNN.out; omega))
          have HL := applyL_len a la ps [] (Nat.zero_le _)
          have HB : Hid (∀ W, Below wr.heap.size wr W → Calls Try.prog 48 #[.slice ao la ca, .slice mo ps.length mc] W fun e w' => ApplyP (applyL a la ps []) W e w') := fun W hW => refApply_any ao mo la ca mc a ps va vc W ((ha.below hbr).below hW) (hpm2.below hW) (by omega) hca hcam (by have := HNN.out; omega) HFS.out
          have HZ : Hid (∀ W, Below wr.heap.size wr W → Calls Try.prog 49 #[.slice po ps.length cp] W fun e w' => e = .returned (.int .i64 s) ∧ Below W.heap.size W w') := fun W hW => by
            have := size_any po cp ps va vc W ((hp.below hbr).below hW) (by have := HNN.out; omega) HFS.out
            rw [HS2.out] at this
            exact this
          rw [HNN.out] at HA HB HZ ⊢
          obtain ⟨⟨r, code⟩, hr⟩ : ∃ y, applyL a la ps [] = y := ⟨_, rfl⟩
          rw [hr] at HA HB HL
          dsimp only at HL
          clear hr hpm2
          have t0 : decide ((k : Int) < (k : Int)) = false := by simp
          have tc : (code == code) = true := by simp
          have ts : ((s : Int) == (s : Int)) = true := by simp
          have HEQ : Hid (eqL (fun i => r.getD i 0) (fun i => r.getD i 0) r.length r.length = true) := eqL_all fun _ _ => rfl
          go_wp2_with fail
          refine HA.out.mono ?_
          rintro e w1 ⟨v1, rfl, hown1, b1⟩
          obtain ⟨ra, rc, rfl, hrc, hrm, hrr⟩ := vu_view hown1
          clear HA
          go_wp2_with fail
          refine (HB.out w1 b1).mono ?_
          rintro e w2 ⟨v2, rfl, hown2, hb2⟩
          have b2 := b1.trans (hb2.mono b1.size)
          obtain ⟨sa, sc, rfl, hsc, hsm, hsr⟩ := vu_view hown2
          clear HB
          have HE := equal_any ra sa r.length r.length rc sc _ _ w2 (hrr.below hb2) hsr (by omega)
          rw [HEQ.out] at HE
          go_wp2_with fail
          refine HE.mono ?_
          rintro e w3 ⟨rfl, hb3⟩
          have b3 := b2.trans (hb3.mono b2.size)
          clear HE
          go_wp2_with fail
          refine (HZ.out w3 b3).mono ?_
          rintro e w4 ⟨rfl, hb4⟩
          have b4 := b3.trans (hb4.mono b3.size)
          go_wp2_with fail
          refine (patchAlive_any _).mono ?_
          rintro e w5 ⟨rfl, hb5⟩
          go_wp2_with fail
          go_ret
          have b5 := b4.trans (hb5.mono b4.size)
          exact ⟨rfl, hbr.trans (b5.mono hbr.size)⟩
end
end Go.Proofs.Ytgelgpcpllmnkaa
