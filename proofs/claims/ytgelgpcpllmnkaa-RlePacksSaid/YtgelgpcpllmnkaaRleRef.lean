/-
  Contracts of the document's layer 54: three, Pack.
-/
import Derived.Test.YtgelgpcpllmnkaaRleBack
import Derived.Test.YtgelgpcpllmnkaaChain
namespace Go.Proofs.Ytgelgpcpllmnkaa
open Go.RowKit Go.Shelf
def threeB (f : Nat → Int) (n i : Nat) : Bool := decide (i + 2 < n) && (f (i + 1) == f i) && (f (i + 2) == f i)
theorem three_head {f : Nat → Int} {n i : Nat} (hi : i ≤ n) : threeB f n i = decide (3 ≤ headN f n i) := by
  obtain ⟨h1, h2⟩ := runF_spec (fun j => f (i + j)) (n - i)
  change (∀ j, j < headN f n i → _) at h1
  change runP _ _ (headN f n i) = false at h2
  by_cases h : 3 ≤ headN f n i
  · have e1 := h1 1 (by omega)
    have e2 := h1 2 (by omega)
    simp [runP] at e1 e2
    simp [threeB, h, e1.2, e2.2]
    omega
  · cases ht : threeB f n i with
    | false => simp [h]
    | true =>
      exfalso
      simp only [threeB, Bool.and_eq_true, decide_eq_true_iff, beq_iff_eq] at ht
      obtain ⟨⟨t1, t2⟩, t3⟩ := ht
      have : headN f n i = 0 ∨ headN f n i = 1 ∨ headN f n i = 2 := by omega
      rcases this with e | e | e
      · rw [e] at h2; simp [runP] at h2; omega
      · rw [e] at h2; simp [runP, t2] at h2; omega
      · rw [e] at h2; simp [runP, t3] at h2; omega
set_option maxHeartbeats 1000000 in
theorem three_any (ao : Option Addr) (n c i : Nat) (f : Nat → Int) (w : World) (ha : Row w ao n (fun j => .int .u32 (f j))) (hn : n ≤ 100000) (hi : i ≤ n) :
    Calls Try.prog 56 #[.slice ao n c, .int .i64 i] w fun e w' => e = .returned (.bool (threeB f n i)) ∧ Below w.heap.size w w' := by
  by_cases h1 : i + 2 < n
  · have d1 : decide ((i : Int) + 2 < (n : Int)) = true := by simp; omega
    obtain ⟨pb, po, rfl, hc0⟩ := ha i (by omega)
    have hc : w.cell? ⟨pb, po + i, none⟩ = some (.int .u32 (f i)) := hc0
    have hc1 : w.cell? ⟨pb, po + (i + 1), none⟩ = some (.int .u32 (f (i + 1))) := ha.cellAt (i := i + 1) (by omega)
    have hc2 : w.cell? ⟨pb, po + (i + 2), none⟩ = some (.int .u32 (f (i + 2))) := ha.cellAt (i := i + 2) (by omega)
    clear hc0
    cases h2 : (f (i + 1) == f i)
    · have HE : Hid (threeB f n i = false) := by unfold Hid threeB; rw [h2]; simp
      go_enter Try.func56, Try.ntmps56
      go_wp2
      go_quiet (fail)
      go_wp2
      go_ret
      exact ⟨by rw [HE.out]; rfl, below_drewN (Below.refl _ _)⟩
    · have HE : Hid (threeB f n i = (f (i + 2) == f i)) := by unfold Hid threeB; rw [h2]; simp [h1]
      cases h3 : (f (i + 2) == f i)
      all_goals
        rw [h3] at HE
        go_enter Try.func56, Try.ntmps56
        go_wp2
        go_quiet (fail)
        go_wp2
        go_ret
        exact ⟨by rw [HE.out]; rfl, below_drewN (Below.refl _ _)⟩
  · have d1 : decide ((i : Int) + 2 < (n : Int)) = false := by simp; omega
    have HE : Hid (threeB f n i = false) := by unfold Hid threeB; simp [h1]
    go_enter Try.func56, Try.ntmps56
    go_wp2
    go_quiet (fail)
    go_wp2
    go_ret
    exact ⟨by rw [HE.out]; rfl, below_drewN (Below.refl _ _)⟩
theorem packF_on {f : Nat → Int} {n k : Nat} {done : List Int} (hk : k < n) (h : packF f n = done ++ words f (groupsN f n k)) : packF f n = (done ++ gwords f (grpAt f n k)) ++ words f (groupsN f n (k + (grpAt f n k).2.2)) := by
  rw [h, groupsN_on hk, words_cons, List.append_assoc]
theorem wrap_i64_in {n : Int} (h0 : -9223372036854775808 ≤ n) (h1 : n < 9223372036854775808) : IntKind.i64.wrap n = n := by
  rw [IntKind.wrap_i64]; omega
theorem plain_head {f : Nat → Int} {n k q : Nat} (hk : k ≤ n) : plainP (fun j => f (k + j)) (n - k) q = (decide (k + q < n) && decide (q < 4096) && decide (headN f n (k + q) < 3)) := by
  unfold plainP
  have e : (fun i => f (k + (q + i))) = fun j => f (k + q + j) := funext fun i => by rw [Nat.add_assoc]
  rw [e, show n - k - q = n - (k + q) by omega, show runF (fun j => f (k + q + j)) (n - (k + q)) = headN f n (k + q) from rfl, show decide (q < n - k) = decide (k + q < n) by simp; omega]
attribute [local go_sem] stillAt
set_option maxRecDepth 100000 in
set_option maxHeartbeats 2000000 in
theorem refPack_any (ao : Option Addr) (n c : Nat) (f : Nat → Int) (w : World) (hrow : Row w ao n (fun j => .int .u32 (f j))) (hn : n ≤ 100000) (hc : n ≤ c) (hcm : c ≤ maxLen) :
    Calls Try.prog 43 #[.slice ao n c] w fun e w' => ∃ v, e = .returned v ∧ w'.ownsRow w.heap.size 72 1 v (packF f n).length (u32L (packF f n)) ∧ Below w.heap.size w w' := by
  obtain ⟨i0, hi, hz0, hz1, hz2⟩ := info_parts infoU32
  have HT3 : Hid (∀ i W, i ≤ n → Below w.heap.size w W → Calls Try.prog 56 #[.slice ao n c, .int .i64 i] W fun e w' => e = .returned (.bool (threeB f n i)) ∧ Below W.heap.size W w') := fun i W hi hW => three_any ao n c i f W (hrow.below hW) hn hi
  go_enter Try.func43, Try.ntmps43
  go_wp2
  go_loopw [3, 4, 5] (fun v at_ _ wr => ∃ (k : Nat) (done : List Int), at_ = .int .i64 k ∧ k ≤ n ∧ Hid (packF f n = done ++ words f (groupsN f n k)) ∧ done.length ≤ 2 * k ∧ wr.ownsRow w.heap.size 72 1 v done.length (u32L done) ∧ Below w.heap.size w wr) (fun _ at_ _ _ => n - (intOf at_).toNat)
  case atStart => exact ⟨0, [], rfl, Nat.zero_le _, rfl, Nat.zero_le _, World.ownsRow_nil _ _ _ _, Below.refl _ _⟩
  case round =>
    obtain ⟨k, done, rfl, hk, HO, hlen, hown, hbr⟩ := hrel
    rcases Nat.lt_or_ge k n with hlt | hge
    · have t0 : decide ((k : Int) < (n : Int)) = true := by simp; omega
      have HN := hid (packF_on hlt HO.out)
      clear HO
      have HC := hid (HT3.out k wr hk hbr)
      rw [three_head hk] at HC
      obtain ⟨av, ac, rfl, hac, hacm, _⟩ := own_view hown
      by_cases h3 : 3 ≤ headN f n k
      · have hg : grpAt f n k = (true, k, headN f n k) := if_neg (by omega)
        rw [hg, gwords_run] at HN
        rw [decide_eq_true h3] at HC
        go_wp2_with fail
        refine HC.out.mono ?_
        rintro e w1 ⟨rfl, hb1⟩
        have b1 := hbr.trans (hb1.mono hbr.size)
        clear HC
        go_wp2_with fail
        obtain ⟨pb, po, rfl, hck0⟩ := (hrow.below b1) k hlt
        have hown1 : w1.ownsRow w.heap.size 72 1 (.slice av done.length ac) done.length (u32L done) := hown.kept (grown_below hb1) (row_any _)
        clear hck0
        go_loopw [5] (fun q_ wr => ∃ q : Nat, q_ = .int .i64 q ∧ q ≤ n - k ∧ q ≤ 4096 ∧ Hid (∀ j, j < q → runP (fun j => f (k + j)) (n - k) j = true) ∧ wr.ownsRow w.heap.size 72 1 (.slice av done.length ac) done.length (u32L done) ∧ Below w.heap.size w wr) (fun q_ _ => n - (intOf q_).toNat)
        case atStart => exact ⟨0, rfl, Nat.zero_le _, Nat.zero_le _, fun j hj => by omega, hown1, b1⟩
        case round =>
          obtain ⟨q, rfl, hqn, hq4, HS, hown2, hbr2⟩ := hrel
          have hcA : wr.cell? ⟨pb, po + k, none⟩ = some (.int .u32 (f k)) := (hrow.below hbr2).cellAt (i := k) hlt
          by_cases h1 : k + q < n
          · have d1 : decide ((k : Int) + (q : Int) < (n : Int)) = true := by simp; omega
            by_cases h2 : q < 4096
            · have d2 : decide ((q : Int) < 4096) = true := by simp; omega
              have hcB : wr.cell? ⟨pb, po + (k + q), none⟩ = some (.int .u32 (f (k + q))) := (hrow.below hbr2).cellAt (i := k + q) h1
              cases h4 : (f (k + q) == f k)
              · have HE : Hid (headN f n k = q) := runF_eq HS.out (by simp [runP, h4]) hq4
                clear HS
                have hq3 : 3 ≤ q := by rw [← HE.out]; exact h3
                rw [HE.out] at HN
                have HWR : IntKind.u32.wrap (q : Int) = (q : Int) := wrap_u32_in (by omega) (by omega)
                have HWS : IntKind.u32.wrap (2147483648 + (q : Int)) = 2147483648 + (q : Int) := wrap_u32_in (by omega) (by omega)
                have hsz := hid hbr2.size
                go_wp2
                go_quiet (fail)
                have hnews := news2 (wr.drewN nq) (Value.int .u32 (2147483648 + (q : Int))) (Value.int .u32 (f k)) 72
                go_wp2_with (at_builtin; refine wpList_append_own _ rfl _ _ 71 rfl w.heap.size 72 i0 (.int .u32 0) 1 4 Try.underlying71 hi hz0 hz1 hz2 rfl (by decide) _ _ _ rfl (hown2.alloc _) ⟨wr.heap.size, 0, none⟩ 2 2 _ rfl rfl hnews (by simp [Value.oneCell']) (by unfold maxLen; omega) (by omega) (by have := hsz.out; simp; omega) ?_; intro v' w2 hown3 hgrow _)
                go_roundw
                case rel =>
                  refine ⟨k + q, done ++ [2147483648 + (q : Int), f k], by go_num, by omega, HN.out, by simp; omega, ?_, ((below_drewN hbr2).alloc (below_drewN hbr2).size _).grown hgrow (by have := hsz.out; simp; omega) fun j hj => (hown2.lt j hj).1⟩
                  rw [u32L_append, List.length_append]
                  exact hown3
                case measure => simp [intOf]; omega
              · have HE : Hid (∀ j, j < q + 1 → runP (fun j => f (k + j)) (n - k) j = true) := upto_step HS.out (by simp only [runP, Nat.add_zero, h4, Bool.and_true, Bool.and_eq_true, decide_eq_true_iff]; omega)
                clear HS
                go_wp2
                go_quiet (fail)
                go_wp2
                go_roundw
                case rel => exact ⟨q + 1, by go_num, by omega, by omega, HE, hown2, below_drewN hbr2⟩
                case measure => simp [intOf]; omega
            · have HE : Hid (headN f n k = q) := runF_eq HS.out (by simp [runP, h2]) hq4
              have d2 : decide ((q : Int) < 4096) = false := by simp; omega
              clear HS
              have hq3 : 3 ≤ q := by rw [← HE.out]; exact h3
              rw [HE.out] at HN
              have HWR : IntKind.u32.wrap (q : Int) = (q : Int) := wrap_u32_in (by omega) (by omega)
              have HWS : IntKind.u32.wrap (2147483648 + (q : Int)) = 2147483648 + (q : Int) := wrap_u32_in (by omega) (by omega)
              have hsz := hid hbr2.size
              go_wp2
              go_quiet (fail)
              have hnews := news2 (wr.drewN nq) (Value.int .u32 (2147483648 + (q : Int))) (Value.int .u32 (f k)) 72
              go_wp2_with (at_builtin; refine wpList_append_own _ rfl _ _ 71 rfl w.heap.size 72 i0 (.int .u32 0) 1 4 Try.underlying71 hi hz0 hz1 hz2 rfl (by decide) _ _ _ rfl (hown2.alloc _) ⟨wr.heap.size, 0, none⟩ 2 2 _ rfl rfl hnews (by simp [Value.oneCell']) (by unfold maxLen; omega) (by omega) (by have := hsz.out; simp; omega) ?_; intro v' w2 hown3 hgrow _)
              go_roundw
              case rel =>
                refine ⟨k + q, done ++ [2147483648 + (q : Int), f k], by go_num, by omega, HN.out, by simp; omega, ?_, ((below_drewN hbr2).alloc (below_drewN hbr2).size _).grown hgrow (by have := hsz.out; simp; omega) fun j hj => (hown2.lt j hj).1⟩
                rw [u32L_append, List.length_append]
                exact hown3
              case measure => simp [intOf]; omega
          · have HE : Hid (headN f n k = q) := runF_eq HS.out (by simp [runP]; omega) hq4
            have d1 : decide ((k : Int) + (q : Int) < (n : Int)) = false := by simp; omega
            clear HS
            have hq3 : 3 ≤ q := by rw [← HE.out]; exact h3
            rw [HE.out] at HN
            have HWR : IntKind.u32.wrap (q : Int) = (q : Int) := wrap_u32_in (by omega) (by omega)
            have HWS : IntKind.u32.wrap (2147483648 + (q : Int)) = 2147483648 + (q : Int) := wrap_u32_in (by omega) (by omega)
            have hsz := hid hbr2.size
            go_wp2
            go_quiet (fail)
            have hnews := news2 (wr.drewN nq) (Value.int .u32 (2147483648 + (q : Int))) (Value.int .u32 (f k)) 72
            go_wp2_with (at_builtin; refine wpList_append_own _ rfl _ _ 71 rfl w.heap.size 72 i0 (.int .u32 0) 1 4 Try.underlying71 hi hz0 hz1 hz2 rfl (by decide) _ _ _ rfl (hown2.alloc _) ⟨wr.heap.size, 0, none⟩ 2 2 _ rfl rfl hnews (by simp [Value.oneCell']) (by unfold maxLen; omega) (by omega) (by have := hsz.out; simp; omega) ?_; intro v' w2 hown3 hgrow _)
            go_roundw
            case rel =>
              refine ⟨k + q, done ++ [2147483648 + (q : Int), f k], by go_num, by omega, HN.out, by simp; omega, ?_, ((below_drewN hbr2).alloc (below_drewN hbr2).size _).grown hgrow (by have := hsz.out; simp; omega) fun j hj => (hown2.lt j hj).1⟩
              rw [u32L_append, List.length_append]
              exact hown3
            case measure => simp [intOf]; omega
      · have hg : grpAt f n k = (false, k, restN f n k) := if_pos (by omega)
        rw [hg, gwords_plain] at HN
        rw [decide_eq_false h3] at HC
        go_wp2_with fail
        refine HC.out.mono ?_
        rintro e w1 ⟨rfl, hb1⟩
        have b1 := hbr.trans (hb1.mono hbr.size)
        clear HC
        go_wp2_with fail
        have hown1 : w1.ownsRow w.heap.size 72 1 (.slice av done.length ac) done.length (u32L done) := hown.kept (grown_below hb1) (row_any _)
        obtain ⟨pb, po, rfl, hck0⟩ := (hrow.below b1) k hlt
        clear hck0
        have hqp := restN_pos hlt (by omega : headN f n k < 3)
        go_loopw [5] (fun q_ wr => ∃ q : Nat, q_ = .int .i64 q ∧ q ≤ n - k ∧ q ≤ 4096 ∧ Hid (∀ j, j < q → plainP (fun j => f (k + j)) (n - k) j = true) ∧ wr.ownsRow w.heap.size 72 1 (.slice av done.length ac) done.length (u32L done) ∧ Below w.heap.size w wr) (fun q_ _ => n - (intOf q_).toNat)
        case atStart => exact ⟨0, rfl, Nat.zero_le _, Nat.zero_le _, fun j hj => by omega, hown1, b1⟩
        case round =>
          obtain ⟨q, rfl, hqn, hq4, HS, hown2, hbr2⟩ := hrel
          by_cases h1 : k + q < n
          · have d1 : decide ((k : Int) + (q : Int) < (n : Int)) = true := by simp; omega
            by_cases h2 : q < 4096
            · have d2 : decide ((q : Int) < 4096) = true := by simp; omega
              have HC := hid (HT3.out (k + q) wr (by omega) hbr2)
              rw [three_head (by omega), show ((k + q : Nat) : Int) = (k : Int) + (q : Int) by omega] at HC
              by_cases h4 : headN f n (k + q) < 3
              · have HE : Hid (∀ j, j < q + 1 → plainP (fun j => f (k + j)) (n - k) j = true) := upto_step HS.out (by rw [plain_head hk]; simp [h1, h2, h4])
                rw [decide_eq_false (by omega)] at HC
                clear HS
                go_wp2_with fail
                refine HC.out.mono ?_
                rintro e w2 ⟨rfl, hb2⟩
                clear HC
                go_wp2
                go_roundw
                case rel => exact ⟨q + 1, by go_num, by omega, by omega, HE, hown2.kept (grown_below hb2) (row_any _), hbr2.trans (hb2.mono hbr2.size)⟩
                case measure => simp [intOf]; omega
              · have HE : Hid (restN f n k = q) := plainF_eq HS.out (by rw [plain_head hk]; simp [h4]) hq4
                rw [decide_eq_true (by omega)] at HC
                clear HS
                go_wp2_with fail
                refine HC.out.mono ?_
                rintro e w2 ⟨rfl, hb2⟩
                clear HC
                have b2 := hbr2.trans (hb2.mono hbr2.size)
                have hown3 : w2.ownsRow w.heap.size 72 1 (.slice av done.length ac) done.length (u32L done) := hown2.kept (grown_below hb2) (row_any _)
                go_wp2
                rw [HE.out] at HN hqp
                have HWR : IntKind.u32.wrap (q : Int) = (q : Int) := wrap_u32_in (by omega) (by omega)
                refine wp_region_chain [3, 4, 11, 12] (fun _ => True) (by kernel_rfl) (by kernel_rfl) trivial ?_
                repeat (first | refine wpFl_chain (by rfl) ?_ | (refine wpFl_still (by rfl) (by rfl) (fun K hK => ?_); go_simp; (refine hK _ ?_; clear hK K)))
                refine wpFl_still (by rfl) (by rfl) (fun K hK => ?_)
                go_simp
                have HWI : IntKind.i64.wrap ((k : Int) + (q : Int)) = ((k + q : Nat) : Int) := wrap_i64_in (by omega) (by omega)
                refine ⟨.slice (some ⟨pb, po + k, none⟩) q (c - k), fun w => ?_, hK _ ?_⟩
                · rw [HWI, if_pos ⟨by omega, by omega⟩, Int.toNat_natCast, if_pos (by omega), if_neg (by omega), show k + q - k = q by omega]
                clear hK K HWI
                repeat refine wpFl_chain (by rfl) ?_
                refine wpFl_nil ?_
                refine wpTl_on (by rfl) (fun K hK => ?_)
                go_wp2_with fail
                refine hK _ _ trivial ?_
                clear hK K
                obtain ⟨W, hW⟩ : ∃ W, W = (w2.alloc (Obj.cells #[Value.int .u32 (q : Int)] 72)).drew := ⟨_, rfl⟩
                have bW : Below w.heap.size w W := by rw [hW]; exact below_drewN (k := 1) (b2.alloc b2.size _)
                have hownW : W.ownsRow w.heap.size 72 1 (.slice av done.length ac) done.length (u32L done) := by rw [hW]; exact hown3.alloc _
                have hnews : ∀ (j : Nat) (u : Value), [Value.int .u32 (q : Int)][j]? = some u → W.cell? ((⟨w2.heap.size, 0, none⟩ : Addr).add j) = some u := by rw [hW]; exact news1 w2 _ _
                rw [← hW]
                clear hW
                have hsz := hid bW.size
                refine wpTl_on (by rfl) (fun K hK => ?_)
                refine wpList_append_own _ rfl _ _ 71 rfl w.heap.size 72 i0 (.int .u32 0) 1 4 Try.underlying71 hi hz0 hz1 hz2 rfl (by decide) _ _ _ rfl hownW ⟨w2.heap.size, 0, none⟩ 1 1 _ rfl rfl hnews (by simp [Value.oneCell']) (by unfold maxLen; omega) (by omega) hsz.out ?_
                intro v' w3 hown4 hgrow _
                refine hK _ _ trivial ?_
                go_simp
                clear hK K
                have b3 := bW.grown hgrow hsz.out fun j hj => (hownW.lt j hj).1
                have hsz3 := hid b3.size
                have hrk : Row w3 (some ⟨pb, po + k, none⟩) q (fun j => .int .u32 (f (k + j))) := ((hrow.below b3).from (k := k) (by omega)).less (by omega)
                refine wpTl_on (by rfl) (fun K hK => ?_)
                refine wpList_append_own _ rfl _ _ 71 rfl w.heap.size 72 i0 (.int .u32 0) 1 4 Try.underlying71 hi hz0 hz1 hz2 rfl (by decide) _ _ _ rfl hown4 ⟨pb, po + k, none⟩ q _ _ rfl (by simp) (news_row hrk) (news_one fun _ => rfl) (by unfold maxLen; omega) (by omega) hsz3.out ?_
                intro v2 w4 hown5 hgrow2 _
                refine hK _ _ trivial ?_
                go_simp
                clear hK K
                have b4 := b3.grown hgrow2 hsz3.out fun j hj => (hown4.lt j hj).1
                refine wpTl_on (by rfl) (fun K hK => ?_)
                go_wp2_with fail
                refine hK _ _ trivial ?_
                clear hK K
                refine wpTl_nil ?_
                go_wp2
                go_roundw
                case rel =>
                  refine ⟨k + q, done ++ ((q : Int) :: (List.range q).map fun j => f (k + j)), by go_num, by omega, HN.out, by simp; omega, ?_, b4⟩
                  rw [u32L_append, List.length_append]
                  simpa [u32L, Function.comp_def, Nat.add_assoc, Nat.add_comm 1 q] using hown5
                case measure => simp [intOf]; omega
            · have HE : Hid (restN f n k = q) := plainF_eq HS.out (by rw [plain_head hk]; simp [h2]) hq4
              have d2 : decide ((q : Int) < 4096) = false := by simp; omega
              have b2 := hbr2
              have hown3 := hown2
              clear HS
              go_wp2
              rw [HE.out] at HN hqp
              have HWR : IntKind.u32.wrap (q : Int) = (q : Int) := wrap_u32_in (by omega) (by omega)
              refine wp_region_chain [3, 4, 11, 12] (fun _ => True) (by kernel_rfl) (by kernel_rfl) trivial ?_
              repeat (first | refine wpFl_chain (by rfl) ?_ | (refine wpFl_still (by rfl) (by rfl) (fun K hK => ?_); go_simp; (refine hK _ ?_; clear hK K)))
              refine wpFl_still (by rfl) (by rfl) (fun K hK => ?_)
              go_simp
              have HWI : IntKind.i64.wrap ((k : Int) + (q : Int)) = ((k + q : Nat) : Int) := wrap_i64_in (by omega) (by omega)
              refine ⟨.slice (some ⟨pb, po + k, none⟩) q (c - k), fun w => ?_, hK _ ?_⟩
              · rw [HWI, if_pos ⟨by omega, by omega⟩, Int.toNat_natCast, if_pos (by omega), if_neg (by omega), show k + q - k = q by omega]
              clear hK K HWI
              repeat refine wpFl_chain (by rfl) ?_
              refine wpFl_nil ?_
              refine wpTl_on (by rfl) (fun K hK => ?_)
              go_wp2_with fail
              refine hK _ _ trivial ?_
              clear hK K
              obtain ⟨W, hW⟩ : ∃ W, W = (wr.alloc (Obj.cells #[Value.int .u32 (q : Int)] 72)).drew := ⟨_, rfl⟩
              have bW : Below w.heap.size w W := by rw [hW]; exact below_drewN (k := 1) (b2.alloc b2.size _)
              have hownW : W.ownsRow w.heap.size 72 1 (.slice av done.length ac) done.length (u32L done) := by rw [hW]; exact hown3.alloc _
              have hnews : ∀ (j : Nat) (u : Value), [Value.int .u32 (q : Int)][j]? = some u → W.cell? ((⟨wr.heap.size, 0, none⟩ : Addr).add j) = some u := by rw [hW]; exact news1 wr _ _
              rw [← hW]
              clear hW
              have hsz := hid bW.size
              refine wpTl_on (by rfl) (fun K hK => ?_)
              refine wpList_append_own _ rfl _ _ 71 rfl w.heap.size 72 i0 (.int .u32 0) 1 4 Try.underlying71 hi hz0 hz1 hz2 rfl (by decide) _ _ _ rfl hownW ⟨wr.heap.size, 0, none⟩ 1 1 _ rfl rfl hnews (by simp [Value.oneCell']) (by unfold maxLen; omega) (by omega) hsz.out ?_
              intro v' w3 hown4 hgrow _
              refine hK _ _ trivial ?_
              go_simp
              clear hK K
              have b3 := bW.grown hgrow hsz.out fun j hj => (hownW.lt j hj).1
              have hsz3 := hid b3.size
              have hrk : Row w3 (some ⟨pb, po + k, none⟩) q (fun j => .int .u32 (f (k + j))) := ((hrow.below b3).from (k := k) (by omega)).less (by omega)
              refine wpTl_on (by rfl) (fun K hK => ?_)
              refine wpList_append_own _ rfl _ _ 71 rfl w.heap.size 72 i0 (.int .u32 0) 1 4 Try.underlying71 hi hz0 hz1 hz2 rfl (by decide) _ _ _ rfl hown4 ⟨pb, po + k, none⟩ q _ _ rfl (by simp) (news_row hrk) (news_one fun _ => rfl) (by unfold maxLen; omega) (by omega) hsz3.out ?_
              intro v2 w4 hown5 hgrow2 _
              refine hK _ _ trivial ?_
              go_simp
              clear hK K
              have b4 := b3.grown hgrow2 hsz3.out fun j hj => (hown4.lt j hj).1
              refine wpTl_on (by rfl) (fun K hK => ?_)
              go_wp2_with fail
              refine hK _ _ trivial ?_
              clear hK K
              refine wpTl_nil ?_
              go_wp2
              go_roundw
              case rel =>
                refine ⟨k + q, done ++ ((q : Int) :: (List.range q).map fun j => f (k + j)), by go_num, by omega, HN.out, by simp; omega, ?_, b4⟩
                rw [u32L_append, List.length_append]
                simpa [u32L, Function.comp_def, Nat.add_assoc, Nat.add_comm 1 q] using hown5
              case measure => simp [intOf]; omega
          · have HE : Hid (restN f n k = q) := plainF_eq HS.out (by rw [plain_head hk]; simp [h1]) hq4
            have d1 : decide ((k : Int) + (q : Int) < (n : Int)) = false := by simp; omega
            have b2 := hbr2
            have hown3 := hown2
            clear HS
            go_wp2
            rw [HE.out] at HN hqp
            have HWR : IntKind.u32.wrap (q : Int) = (q : Int) := wrap_u32_in (by omega) (by omega)
            refine wp_region_chain [3, 4, 11, 12] (fun _ => True) (by kernel_rfl) (by kernel_rfl) trivial ?_
            repeat (first | refine wpFl_chain (by rfl) ?_ | (refine wpFl_still (by rfl) (by rfl) (fun K hK => ?_); go_simp; (refine hK _ ?_; clear hK K)))
            refine wpFl_still (by rfl) (by rfl) (fun K hK => ?_)
            go_simp
            have HWI : IntKind.i64.wrap ((k : Int) + (q : Int)) = ((k + q : Nat) : Int) := wrap_i64_in (by omega) (by omega)
            refine ⟨.slice (some ⟨pb, po + k, none⟩) q (c - k), fun w => ?_, hK _ ?_⟩
            · rw [HWI, if_pos ⟨by omega, by omega⟩, Int.toNat_natCast, if_pos (by omega), if_neg (by omega), show k + q - k = q by omega]
            clear hK K HWI
            repeat refine wpFl_chain (by rfl) ?_
            refine wpFl_nil ?_
            refine wpTl_on (by rfl) (fun K hK => ?_)
            go_wp2_with fail
            refine hK _ _ trivial ?_
            clear hK K
            obtain ⟨W, hW⟩ : ∃ W, W = (wr.alloc (Obj.cells #[Value.int .u32 (q : Int)] 72)).drew := ⟨_, rfl⟩
            have bW : Below w.heap.size w W := by rw [hW]; exact below_drewN (k := 1) (b2.alloc b2.size _)
            have hownW : W.ownsRow w.heap.size 72 1 (.slice av done.length ac) done.length (u32L done) := by rw [hW]; exact hown3.alloc _
            have hnews : ∀ (j : Nat) (u : Value), [Value.int .u32 (q : Int)][j]? = some u → W.cell? ((⟨wr.heap.size, 0, none⟩ : Addr).add j) = some u := by rw [hW]; exact news1 wr _ _
            rw [← hW]
            clear hW
            have hsz := hid bW.size
            refine wpTl_on (by rfl) (fun K hK => ?_)
            refine wpList_append_own _ rfl _ _ 71 rfl w.heap.size 72 i0 (.int .u32 0) 1 4 Try.underlying71 hi hz0 hz1 hz2 rfl (by decide) _ _ _ rfl hownW ⟨wr.heap.size, 0, none⟩ 1 1 _ rfl rfl hnews (by simp [Value.oneCell']) (by unfold maxLen; omega) (by omega) hsz.out ?_
            intro v' w3 hown4 hgrow _
            refine hK _ _ trivial ?_
            go_simp
            clear hK K
            have b3 := bW.grown hgrow hsz.out fun j hj => (hownW.lt j hj).1
            have hsz3 := hid b3.size
            have hrk : Row w3 (some ⟨pb, po + k, none⟩) q (fun j => .int .u32 (f (k + j))) := ((hrow.below b3).from (k := k) (by omega)).less (by omega)
            refine wpTl_on (by rfl) (fun K hK => ?_)
            refine wpList_append_own _ rfl _ _ 71 rfl w.heap.size 72 i0 (.int .u32 0) 1 4 Try.underlying71 hi hz0 hz1 hz2 rfl (by decide) _ _ _ rfl hown4 ⟨pb, po + k, none⟩ q _ _ rfl (by simp) (news_row hrk) (news_one fun _ => rfl) (by unfold maxLen; omega) (by omega) hsz3.out ?_
            intro v2 w4 hown5 hgrow2 _
            refine hK _ _ trivial ?_
            go_simp
            clear hK K
            have b4 := b3.grown hgrow2 hsz3.out fun j hj => (hown4.lt j hj).1
            refine wpTl_on (by rfl) (fun K hK => ?_)
            go_wp2_with fail
            refine hK _ _ trivial ?_
            clear hK K
            refine wpTl_nil ?_
            go_wp2
            go_roundw
            case rel =>
              refine ⟨k + q, done ++ ((q : Int) :: (List.range q).map fun j => f (k + j)), by go_num, by omega, HN.out, by simp; omega, ?_, b4⟩
              rw [u32L_append, List.length_append]
              simpa [u32L, Function.comp_def, Nat.add_assoc, Nat.add_comm 1 q] using hown5
            case measure => simp [intOf]; omega
    · obtain rfl : k = n := by omega
      have HE := hid (show packF f k = done by rw [HO.out, groupsN_end (Nat.le_refl _)]; exact List.append_nil _)
      clear HO
      have t0 : decide ((k : Int) < (k : Int)) = false := by simp
      go_wp2
      go_ret
      exact ⟨_, rfl, by rw [HE.out]; exact hown, hbr⟩
end Go.Proofs.Ytgelgpcpllmnkaa
