/-
  The walk of CrcAdds.
-/
import Derived.Test.YtgcpfmdldgmbnaaCrcLaws
import Derived.Test.YtgcpfmdldgmbnaaStage
namespace Go.Proofs.Ytgcpfmdldgmbnaa
open Go.RowKit
theorem adds_sum (n : Nat) (f g h : Nat → BitVec 32) : (B (wordsC 0#32 ((List.range n).map fun i => f i ^^^ g i ^^^ h i)) == bits .xor .u32 (bits .xor .u32 (B (wordsC 0#32 ((List.range n).map f))) (B (wordsC 0#32 ((List.range n).map g)))) (B (wordsC 0#32 ((List.range n).map h)))) = true := by
  rw [B_xor, B_xor, ← wordsC_xor3, BitVec.xor_self, BitVec.zero_xor]
  simp
theorem row_none (w : World) (ao : Option Addr) (f : Nat → Value) : Row w ao 0 f := fun i hi => by omega
set_option maxRecDepth 100000 in
theorem adds_short (aoa aob aoc : Option Addr) (na nb nc ca cb cc : Nat) (w : World) (hn : na ≤ maxLen) (h : 500 < na ∨ na ≤ 500 ∧ (nb < na ∨ na ≤ nb ∧ nc < na)) :
    Calls Try.prog 7 #[.slice aoa na ca, .slice aob nb cb, .slice aoc nc cc] w fun e w' => e = .returned (.bool true) ∧ Below w.heap.size w w' := by
  unfold maxLen at hn
  rcases h with h | ⟨h, h | ⟨h2, h3⟩⟩
  all_goals
    go_enter Try.func7, Try.ntmps7
    go_wp2
    go_ret
    exact ⟨rfl, Below.refl _ _⟩
set_option maxRecDepth 100000 in
set_option maxHeartbeats 1000000 in
theorem adds_some (ba oa bb ob bc oc : Nat) (n nb nc ca cb cc : Nat) (fa fb fc : Nat → BitVec 32) (w : World) (hn0 : 1 ≤ n) (hn : n ≤ 500) (hnb : n ≤ nb) (hnc : n ≤ nc) (hcb : nb ≤ cb) (hcc : nc ≤ cc)
    (ha : Row w (some ⟨ba, oa, none⟩) n (fun i => .int .u32 (B (fa i)))) (hb : Row w (some ⟨bb, ob, none⟩) n (fun i => .int .u32 (B (fb i)))) (hc : Row w (some ⟨bc, oc, none⟩) n (fun i => .int .u32 (B (fc i)))) :
    Calls Try.prog 7 #[.slice (some ⟨ba, oa, none⟩) n ca, .slice (some ⟨bb, ob, none⟩) nb cb, .slice (some ⟨bc, oc, none⟩) nc cc] w fun e w' => e = .returned (.bool true) ∧ Below w.heap.size w w' := by
  have d1 : decide (500 < (n : Int)) = false := by simp; omega
  have e1 : n ≤ cb := by omega
  have e2 : n ≤ cc := by omega
  have d2 : decide ((nb : Int) < (n : Int)) = false := by simp; omega
  have d3 : decide ((nc : Int) < (n : Int)) = false := by simp; omega
  have d2' : decide (nb < n) = false := by simp; omega
  have d3' : decide (nc < n) = false := by simp; omega
  obtain ⟨i0, hi, hz0, hz1, hz2⟩ := info_parts infoU32
  have la := ha.lt (i := 0) (by omega) rfl
  have lb := hb.lt (i := 0) (by omega) rfl
  have lc := hc.lt (i := 0) (by omega) rfl
  go_enter Try.func7, Try.ntmps7
  go_wp2_with fail
  go_quiet (fail)
  obtain ⟨W, hW⟩ : ∃ W, W = w.drewN nq := ⟨_, rfl⟩
  have hsz : W.heap.size = w.heap.size := by rw [hW]; rfl
  have hbW : Below w.heap.size w W := by rw [hW]; exact ⟨rfl, rfl, rfl, Nat.le_refl _, fun _ _ => rfl⟩
  have haW : Row W (some ⟨ba, oa, none⟩) n (fun i => .int .u32 (B (fa i))) := ha.below hbW
  rw [← hW]
  have HSZ := hid hsz
  clear hW hsz
  go_wp2_with (at_builtin; refine wpList_append_own _ rfl _ _ 39 rfl W.heap.size 22 i0 (.int .u32 0) 1 4 Try.underlying39 hi hz0 hz1 hz2 rfl (by decide) _ _ _ rfl (World.ownsRow_lit W #[] 0 (Nat.le_refl _) (by unfold maxLen; omega) rfl) ⟨ba, oa, none⟩ n ca ((List.range n).map fun j => .int .u32 (B (fa j))) rfl (by simp) (news_row (haW.alloc _)) (news_one fun _ => rfl) (by unfold maxLen; omega) (by omega) (by simp) ?_; intro v' w1 hown hgrow _; rw [Nat.zero_add, List.nil_append] at hown; have hgrow' : (W.alloc (Obj.cells #[] 22)).grownBy w1 (some W.heap.size) := hgrow; obtain ⟨g, cap', rfl, hg, hgs, hcap, hcm, hfm⟩ := own_form hown (by omega); have hcm := hid hcm; have hfm := hid hfm; clear hown hgrow)
  have hb1 : Below w.heap.size w w1 := hbW.trans ((((Below.refl _ _).alloc (Nat.le_refl _) _).trans (grown_below hgrow' (Nat.le_refl _) (by simp))).mono (by rw [HSZ.out]; exact Nat.le_refl _))
  have hg' : w.heap.size ≤ g := by rw [HSZ.out] at hg; exact hg
  have hrow1 : Row w1 (some ⟨g, 0, none⟩) n (fun i => .int .u32 (B (if i < 0 then fa i ^^^ fb i ^^^ fc i else fa i))) := fun i hi => ⟨g, 0, rfl, by rw [Nat.zero_add, hcm.out i hi]; simp [hi]⟩
  have hfz : ∀ j, w1.frozen? ⟨g, j, none⟩ = false := hfm.out
  have HFZ := hid hfz
  clear hfz hgrow' hcm hfm hg hgs
  go_loopw [10] (fun i wr => ∃ k : Nat, k ≤ n ∧ i = .int .i64 k ∧ Row wr (some ⟨g, 0, none⟩) n (fun i => .int .u32 (B (if i < k then fa i ^^^ fb i ^^^ fc i else fa i))) ∧ Hid (∀ j, wr.frozen? ⟨g, j, none⟩ = false) ∧ Below w.heap.size w wr) (fun i _ => n - (intOf i).toNat)
  case atStart => exact ⟨0, by omega, rfl, hrow1, HFZ, hb1⟩
  case round =>
    obtain ⟨k, hk, rfl, hrow, hfr, hbr⟩ := hrel
    clear hrow1 hb1 HFZ
    by_cases hlt : k < n
    · have cm := hrow.cellAt hlt
      have cb1 := (hb.below hbr).cellAt hlt
      have cc1 := (hc.below hbr).cellAt hlt
      rw [Nat.zero_add] at cm
      simp only [Nat.lt_irrefl, if_false] at cm
      have cf := hfr.out k
      go_wp2_with fail
      go_region
      all_goals go_wp2_with fail
      all_goals
        go_roundw
        case rel =>
          refine ⟨k + 1, by omega, by go_num, fun i hi => ⟨g, 0, rfl, ?_⟩, fun j => ?_, ?_⟩
          · rw [Nat.zero_add]
            show (wr.setCell ⟨g, k, none⟩ _).cell? ⟨g, i, none⟩ = some (.int .u32 (B (if i < k + 1 then fa i ^^^ fb i ^^^ fc i else fa i)))
            by_cases hik : i = k
            · subst hik
              rw [if_pos (by omega), B_xor, B_xor]
              exact World.cell?_setCell_same' _ _ _ (by rw [cm]; rfl)
            · have h1 := hrow.cellAt hi
              rw [Nat.zero_add] at h1
              have e : (if i < k + 1 then fa i ^^^ fb i ^^^ fc i else fa i) = (if i < k then fa i ^^^ fb i ^^^ fc i else fa i) := by
                by_cases h : i < k
                · rw [if_pos h, if_pos (by omega)]
                · rw [if_neg h, if_neg (by omega)]
              rw [e, ← h1]
              have : k ≠ i := fun e => hik e.symm
              simp [go_sem]
          · show (wr.setCell ⟨g, k, none⟩ _).frozen? ⟨g, j, none⟩ = false
            rw [World.frozen?_setCell]; exact hfr.out j
          · exact (hbr.setCell hg' _).drew
        case measure => simp [intOf]; omega
    · obtain rfl : k = n := by omega
      have hm : Row wr (some ⟨g, 0, none⟩) k (fun i => .int .u32 (B (fa i ^^^ fb i ^^^ fc i))) := hrow.congr fun i hi => by simp [hi]
      have hA := ha.below hbr
      have hB := hb.below hbr
      have hC := hc.below hbr
      have hs := adds_sum k fa fb fc
      clear hrow
      go_wp2_with fail
      refine (words_any _ k _ _ wr hm (by omega)).mono ?_
      rintro e w2 ⟨rfl, h2⟩
      generalize B (wordsC 0#32 ((List.range k).map fun i => fa i ^^^ fb i ^^^ fc i)) = s0 at hs ⊢
      go_wp2_with fail
      refine (words_any _ k _ _ w2 (hA.below h2) (by omega)).mono ?_
      rintro e w3 ⟨rfl, h3⟩
      generalize B (wordsC 0#32 ((List.range k).map fa)) = s1 at hs ⊢
      go_wp2_with fail
      refine (words_any _ k _ _ w3 ((hB.below h2).below h3) (by omega)).mono ?_
      rintro e w4 ⟨rfl, h4⟩
      generalize B (wordsC 0#32 ((List.range k).map fb)) = s2 at hs ⊢
      go_wp2_with fail
      refine (words_any _ k _ _ w4 (((hC.below h2).below h3).below h4) (by omega)).mono ?_
      rintro e w5 ⟨rfl, h5⟩
      generalize B (wordsC 0#32 ((List.range k).map fc)) = s3 at hs ⊢
      go_wp2_with (go_at_call 32; refine (crcAlive_any _).mono ?_; rintro e w6 ⟨rfl, h6⟩)
      go_ret
      have b2 := hbr.trans (h2.mono hbr.size)
      have b3 := b2.trans (h3.mono b2.size)
      have b4 := b3.trans (h4.mono b3.size)
      have b5 := b4.trans (h5.mono b4.size)
      exact ⟨rfl, b5.trans (h6.mono b5.size)⟩
theorem words0 (ao : Option Addr) (cap : Nat) (w : World) :
    Calls Try.prog 31 #[.slice ao 0 cap] w fun e w' => e = .returned (.int .u32 0) ∧ Below w.heap.size w w' :=
  (words_any ao 0 cap (fun _ => 0#32) w (row_none _ _ _) (by omega)).mono fun e w' ⟨h1, h2⟩ => ⟨h1, h2⟩
theorem xor000 : bits .xor .u32 (bits .xor .u32 0 0) 0 = 0 := by decide
set_option maxRecDepth 100000 in
set_option maxHeartbeats 1000000 in
theorem adds_none (aoa aob aoc : Option Addr) (nb nc ca cb cc : Nat) (w : World) :
    Calls Try.prog 7 #[.slice aoa 0 ca, .slice aob nb cb, .slice aoc nc cc] w fun e w' => e = .returned (.bool true) ∧ Below w.heap.size w w' := by
  have d2 : decide ((nb : Int) < 0) = false := by simp
  have d3 : decide ((nc : Int) < 0) = false := by simp
  have hx := xor000
  rcases aoa with _ | ⟨b, o, s⟩
  all_goals
    go_enter Try.func7, Try.ntmps7
    go_wp2_with fail
    go_quiet (fail)
    obtain ⟨W, hW⟩ : ∃ W, W = w.drewN nq := ⟨_, rfl⟩
    have hsz : W.heap.size = w.heap.size := by rw [hW]; rfl
    have hbW : Below w.heap.size w W := by rw [hW]; exact ⟨rfl, rfl, rfl, Nat.le_refl _, fun _ _ => rfl⟩
    rw [← hW]
    clear hW
    go_wp2_with fail
    refine wp_loop_rounds 1 ?_
    rw [rounds_succ]
    go_wp2_with fail
    refine (words0 _ _ _).mono ?_
    rintro e w2 ⟨rfl, h2⟩
    go_wp2_with fail
    refine (words0 _ _ _).mono ?_
    rintro e w3 ⟨rfl, h3⟩
    go_wp2_with fail
    refine (words0 _ _ _).mono ?_
    rintro e w4 ⟨rfl, h4⟩
    go_wp2_with fail
    refine (words0 _ _ _).mono ?_
    rintro e w5 ⟨rfl, h5⟩
    go_wp2_with (go_at_call 32; refine (crcAlive_any _).mono ?_; rintro e w6 ⟨rfl, h6⟩)
    go_ret
    have b1 : Below w.heap.size w (W.alloc (Obj.cells #[] 22)) := hbW.alloc (by rw [hsz]; exact Nat.le_refl _) _
    have b2 := b1.trans (h2.mono b1.size)
    have b3 := b2.trans (h3.mono b2.size)
    have b4 := b3.trans (h4.mono b3.size)
    have b5 := b4.trans (h5.mono b4.size)
    exact ⟨rfl, b5.trans (h6.mono b5.size)⟩
theorem adds_walk (aoa aob aoc : Option Addr) (na nb nc ca cb cc : Nat) (fa fb fc : Nat → BitVec 32) (w : World) (hm : na ≤ maxLen) (hcb : nb ≤ cb) (hcc : nc ≤ cc)
    (ha : Row w aoa na (fun i => .int .u32 (B (fa i)))) (hb : Row w aob nb (fun i => .int .u32 (B (fb i)))) (hc : Row w aoc nc (fun i => .int .u32 (B (fc i)))) :
    Calls Try.prog 7 #[.slice aoa na ca, .slice aob nb cb, .slice aoc nc cc] w fun e w' => e = .returned (.bool true) ∧ Below w.heap.size w w' := by
  by_cases h : 500 < na ∨ na ≤ 500 ∧ (nb < na ∨ na ≤ nb ∧ nc < na)
  · exact adds_short aoa aob aoc na nb nc ca cb cc w hm h
  · by_cases h0 : na = 0
    · subst h0
      exact adds_none aoa aob aoc nb nc ca cb cc w
    · have hb' : Row w aob na (fun i => .int .u32 (B (fb i))) := hb.less (by omega)
      have hc' : Row w aoc na (fun i => .int .u32 (B (fc i))) := hc.less (by omega)
      obtain ⟨ba, oa, rfl, _⟩ := ha 0 (by omega)
      obtain ⟨bb, ob, rfl, _⟩ := hb' 0 (by omega)
      obtain ⟨bc, oc, rfl, _⟩ := hc' 0 (by omega)
      exact adds_some ba oa bb ob bc oc na nb nc ca cb cc fa fb fc w (by omega) (by omega) (by omega) (by omega) hcb hcc ha hb' hc'
end Go.Proofs.Ytgcpfmdldgmbnaa
