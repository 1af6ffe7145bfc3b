/-
  Contract of rle.Pack: the words of the groups.
-/
import Derived.Test.YtgelgpcpllmnkaaRleGroups
namespace Go.Proofs.Ytgelgpcpllmnkaa
open Go.RowKit Go.Shelf
attribute [local go_sem] Oper.semAt_some
def encG (ao : Option Addr) (x : Grp) : Array Value := #[.bool x.1, .slice (addrAt ao x.2.1) x.2.2 x.2.2]
theorem groups_any (ao : Option Addr) (n c : Nat) (w : World) :
    Calls Try.prog 54 #[.slice ao n c] w fun e w' => e = .returned (.func (.func 62) #[] #[.pointer (some ⟨w.heap.size, 0, none⟩)]) ∧ w' = w.alloc (.cells #[.slice ao n c] 71) := by
  go_enter Try.func54, Try.ntmps54
  go_wp2
  go_ret
  exact ⟨rfl, rfl⟩
/-- The length of the slice in a box. -/
def lenAt (W : World) (B : Nat) : Nat := match W.cell? ⟨B, 0, none⟩ with | some (.slice _ n _) => n | _ => 0
theorem lenAt_of {W : World} {B n c : Nat} {ao : Option Addr} (h : W.cell? ⟨B, 0, none⟩ = some (.slice ao n c)) : lenAt W B = n := by unfold lenAt; rw [h]
set_option maxRecDepth 100000 in
set_option maxHeartbeats 2000000 in
theorem groups1_turns (m : Nat) (hm : 3 ≤ m) (b o n c : Nat) (f : Nat → Int) (w w0 : World) (hn : n ≤ 100000) (hc : n ≤ c) (hcm : c ≤ maxLen)
    (hrow : Row w (some ⟨b, o, none⟩) n (fun j => .int .u32 (f j))) (hw0 : w0.heap.size = w.heap.size + 2) (h0 : ∀ W1, w0.grownBy W1 none → SeqI w f n c (some ⟨b, o, none⟩) [] W1) :
    Turns Fence.wide m Try.prog 62 #[.pointer (some ⟨w.heap.size + 1, 0, none⟩)] (encG (some ⟨b, o, none⟩)) (SeqI w f n c (some ⟨b, o, none⟩)) (SeqI2 w f n c (some ⟨b, o, none⟩)) (fun _ _ _ => False) (fun xs => xs = groupsN f n 0) (Fits f n) w0 := by
  intro l R Rx W1 hg1 hsz1 hR hRx hY hR1
  have hI1 := h0 W1 hg1
  clear h0
  have h1 : 1 ≤ m := by omega
  refine callsIn_of_wp Try.func62 rfl trivial ?_ rfl
  simp only [Try.ntmps62, List.size_toArray, List.length_cons, List.length_nil, Nat.reduceAdd, Nat.reduceSub, Array.replicate_succ, Array.replicate_zero, List.push_toArray, List.append_toArray, List.nil_append, List.cons_append]
  gi_wp2
  gi_loopw [3, 4, 5, 6, 7, 8, 9, 10, 11, 12, 13, 14, 15, 16, 17, 18, 19, 20, 21, 22, 23, 24] (fun _ _ _ _ _ _ _ _ _ _ _ _ _ _ _ _ _ _ _ _ _ _ wr => ∃ pre, SeqI w f n c (some ⟨b, o, none⟩) pre wr ∧ R wr) (fun _ _ _ _ _ _ _ _ _ _ _ _ _ _ _ _ _ _ _ _ _ _ wr => lenAt wr (w.heap.size + 1))
  case atStart => exact ⟨[], hI1, hR1⟩
  case round =>
    obtain ⟨pre, hI, hRr⟩ := hrel
    have hIk := hI
    obtain ⟨hk, hG, hwd, ⟨ao', hv, hao⟩, hO⟩ := hI
    have hlen : lenAt wr (w.heap.size + 1) = n - pos pre := lenAt_of hv.cell
    obtain ⟨k, hkp⟩ : ∃ k, pos pre = k := ⟨_, rfl⟩
    rw [hkp] at hk hG hv hao hlen
    rcases Nat.lt_or_ge k n with hlt | hge
    · obtain rfl := hao hlt
      have hrk := (hrow.below hO.2).from (k := k) hk
      have HF := hid (show Fits f n pre (grpAt f n k) from ⟨by rw [hkp]; exact hlt, by rw [hkp]⟩)
      have hgp := grpAt_pos (f := f) hlt
      obtain ⟨M, hM⟩ : ∃ M, n - k = M := ⟨_, rfl⟩
      obtain ⟨C, hC⟩ : ∃ C, c - k = C := ⟨_, rfl⟩
      have hMC : M ≤ C := by omega
      have hM0 : 0 < M := by omega
      have hCm : C ≤ maxLen := by omega
      rw [hM] at hv hrk
      rw [hC] at hv
      have hv : Boxed wr (w.heap.size + 1) 71 (.slice (some ⟨b, o + k, none⟩) M C) := hv
      have hc0 := hv.cell
      have d0 : decide ((0 : Int) < (M : Int)) = true := by simp; omega
      have HR := hid (run_any (some ⟨b, o + k, none⟩) M C (fun j => f (k + j)) wr hrk (by omega))
      have HN := hid (show headN f n k = runF (fun j => f (k + j)) M by unfold headN; rw [hM])
      have HP := hid (show restN f n k = plainF (fun j => f (k + j)) M by unfold restN; rw [hM])
      by_cases hr3 : headN f n k < 3
      · have HE := hid (show grpAt f n k = (false, k, restN f n k) from if_pos hr3)
        rw [HE.out] at hgp
        simp only at hgp
        rw [← HN.out] at HR
        have d1 : decide (((headN f n k : Nat) : Int) < 3) = true := by simp; omega
        obtain ⟨r, hr⟩ : ∃ r, headN f n k = r := ⟨_, rfl⟩
        obtain ⟨p, hp⟩ : ∃ p, restN f n k = p := ⟨_, rfl⟩
        rw [hr] at HR d1
        rw [hp] at hgp HE HP
        have HPL := hid (fun W (h : Row W (some ⟨b, o + k, none⟩) M (fun j => .int .u32 (f (k + j)))) => plain_any (some ⟨b, o + k, none⟩) M C (fun j => f (k + j)) W h (by omega) hMC hCm)
        rw [← HP.out] at HPL
        clear hr hp HN HP hr3
        gi_wp2_with (first
          | (refine ⟨trivial, ?_⟩; gi_at_call 63; refine (callsIn_wide.2 HR.out).mono ?_; rintro e w1 ⟨rfl, hb1⟩; have hv1 := boxed_below hv hb1; have hc1 := hv1.cell; have HQ := hid (HPL.out w1 (hrk.below hb1)))
          | (refine ⟨trivial, ?_⟩; gi_at_call 64; refine (callsIn_wide.2 HQ.out).mono ?_; rintro e w2 ⟨rfl, hb2⟩; have hv2 := boxed_below hv1 hb2; have hc2 := hv2.cell; obtain ⟨fn, tmps, assign, body, hy, hRd⟩ := hY pre (false, k, p) w2 ((hIk.below hb1).below hb2) (hR _ _ none (hR _ _ none hRr (grown_below hb1) (fun _ e => (by cases e))) (grown_below hb2) (fun _ e => (by cases e))) (by rw [← HE.out]; exact HF.out); have hy : (Instr.yield l #[.bool false, .slice (some ⟨b, o + k, none⟩) p p]).run Try.prog w2 = _ := hy))
        refine hRd.mono ?_
        rintro e W3 (⟨rfl, hI3, hR3⟩ | ⟨rfl, _, hf, _⟩)
        · have hI3k := hI3
          obtain ⟨_, _, _, ⟨a3, hv3, ha3⟩, _⟩ := hI3
          obtain rfl := ha3 (by rw [hkp]; exact hlt)
          rw [hkp, hM, hC] at hv3
          have hv3 : Boxed W3 (w.heap.size + 1) 71 (.slice (some ⟨b, o + k, none⟩) M C) := hv3
          have hc3 := hv3.cell
          have hf3 := hv3.frozen
          gi_wp2
          go_roundw
          case rel =>
            refine ⟨pre ++ [(false, k, p)], ?_, hR _ _ _ hR3 (grownBy_setCell' W3 _ _) (fun j e => by cases e; omega)⟩
            have ht := seq_turn (ao' := if C = p then some ⟨b, o + k, none⟩ else some ⟨b, o + k + p, none⟩) hI3k (fun h => by
              rw [hkp] at h
              simp only at h
              rw [if_neg (by omega), hkp]; simp [addrAt, Nat.add_assoc])
            rw [hkp, show n - (k + ((false, k, p) : Grp).2.2) = M - p by simp only; omega, show c - (k + ((false, k, p) : Grp).2.2) = C - p by simp only; omega] at ht
            exact ht
          case measure =>
            rw [lenAt_of (hv3.set _).cell, hlen]; omega
        · exact hf.elim
      · have HE := hid (show grpAt f n k = (true, k, headN f n k) from if_neg hr3)
        rw [HE.out] at hgp
        simp only at hgp
        rw [← HN.out] at HR
        have d1 : decide (((headN f n k : Nat) : Int) < 3) = false := by simp; omega
        obtain ⟨r, hr⟩ : ∃ r, headN f n k = r := ⟨_, rfl⟩
        rw [hr] at HR d1 hgp HE
        clear hr HN HP hr3
        gi_wp2_with (refine ⟨trivial, ?_⟩; gi_at_call 63; refine (callsIn_wide.2 HR.out).mono ?_; rintro e w1 ⟨rfl, hb1⟩; have hv1 := boxed_below hv hb1; have hc1 := hv1.cell; obtain ⟨fn, tmps, assign, body, hy, hRd⟩ := hY pre (true, k, r) w1 (hIk.below hb1) (hR _ _ none hRr (grown_below hb1) (fun _ e => (by cases e))) (by rw [← HE.out]; exact HF.out); have hy : (Instr.yield l #[.bool true, .slice (some ⟨b, o + k, none⟩) r r]).run Try.prog w1 = _ := hy)
        refine hRd.mono ?_
        rintro e W3 (⟨rfl, hI3, hR3⟩ | ⟨rfl, _, hf, _⟩)
        · have hI3k := hI3
          obtain ⟨_, _, _, ⟨a3, hv3, ha3⟩, _⟩ := hI3
          obtain rfl := ha3 (by rw [hkp]; exact hlt)
          rw [hkp, hM, hC] at hv3
          have hv3 : Boxed W3 (w.heap.size + 1) 71 (.slice (some ⟨b, o + k, none⟩) M C) := hv3
          have hc3 := hv3.cell
          have hf3 := hv3.frozen
          gi_wp2
          go_roundw
          case rel =>
            refine ⟨pre ++ [(true, k, r)], ?_, hR _ _ _ hR3 (grownBy_setCell' W3 _ _) (fun j e => by cases e; omega)⟩
            have ht := seq_turn (ao' := if C = r then some ⟨b, o + k, none⟩ else some ⟨b, o + k + r, none⟩) hI3k (fun h => by
              rw [hkp] at h
              simp only at h
              rw [if_neg (by omega), hkp]; simp [addrAt, Nat.add_assoc])
            rw [hkp, show n - (k + ((true, k, r) : Grp).2.2) = M - r by simp only; omega, show c - (k + ((true, k, r) : Grp).2.2) = C - r by simp only; omega] at ht
            exact ht
          case measure =>
            rw [lenAt_of (hv3.set _).cell, hlen]; omega
        · exact hf.elim
    · obtain rfl : k = n := by omega
      rw [Nat.sub_self] at hv
      have hc0 := hv.cell
      rw [groupsN_end (Nat.le_refl _), List.append_nil] at hG
      have HG := hid hG
      clear hG
      gi_wp2
      go_end0
      exact ⟨⟨_, rfl⟩, .inl ⟨pre, HG.out, hIk, hRr⟩⟩
end Go.Proofs.Ytgelgpcpllmnkaa
