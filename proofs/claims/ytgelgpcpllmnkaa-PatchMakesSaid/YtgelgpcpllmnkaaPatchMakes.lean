/-
  The walk of PatchMakes.
-/
import Derived.Test.YtgelgpcpllmnkaaPatchRef
namespace Go.Proofs.Ytgelgpcpllmnkaa
open Go.RowKit
theorem pcs_of_ownE {W : World} {B : Nat} {no : Option Nat} {v : Value} {ps : List (Pc × Value)} {te : TypeId} (h : W.ownsRow B te 3 v ps.length (cellsP ps)) (hok : ∀ x ∈ ps, PcOk W B no x) :
    ∃ ao c, v = .slice ao ps.length c ∧ PcsAt W ao (ps.map Prod.fst) (vaOf ps) (vcOf ps) := by
  rcases h.2 with ⟨e, h2⟩ | ⟨g, cap, cur, e, _, _, _⟩
  · rw [e, h2]
    exact ⟨none, 0, rfl, fun i hi => by rw [List.length_map] at hi; omega⟩
  · subst e
    refine ⟨_, _, rfl, fun i hi => ?_⟩
    rw [List.length_map] at hi
    have hg : ∀ j, j < 3 → W.cell? ⟨g, 0 + i * 3 + j, none⟩ = (cellsOfPc ps[i])[j]? := fun j hj => by
      rw [Nat.zero_add, h.cellAt (i * 3 + j) (by omega), cellsP_get ps i hi j hj]
    have hx := hok ps[i] (List.getElem_mem _)
    have hva : vaOf ps i = slA ps[i].2 := by unfold vaOf; rw [List.getElem?_eq_getElem hi]; rfl
    have hvc : vcOf ps i = slC ps[i].2 := by unfold vcOf; rw [List.getElem?_eq_getElem hi]; rfl
    have e0 : (ps.map Prod.fst)[i]'(by rw [List.length_map]; exact hi) = ps[i].1 := List.getElem_map ..
    rw [e0]
    obtain ⟨x, hx0⟩ : ∃ x, ps[i] = x := ⟨_, rfl⟩
    rw [hx0] at hx hva hvc hg ⊢
    clear hx0
    obtain ⟨⟨fr, mn, fs⟩, u⟩ := x
    dsimp only at hx hva hvc hg ⊢
    have key : ∃ sa sc, u = .slice sa fs.length sc ∧ Row W sa fs.length (fun j => .int .u32 (fs.getD j 0)) ∧ fs.length ≤ sc ∧ sc ≤ maxLen := by
      rcases hx with ⟨h1, h2⟩ | ⟨_, h2, _⟩
      · simp only at h1 h2
        subst h1 h2
        exact ⟨none, 0, rfl, fun i hi => (by cases hi), Nat.le_refl _, Nat.zero_le _⟩
      · obtain ⟨sa, sc, e, h3, h4, h5⟩ := vu_view h2
        exact ⟨sa, sc, e, h5, h3, h4⟩
    obtain ⟨sa, sc, rfl, h3, h4, h5⟩ := key
    rw [hva, hvc]
    exact ⟨g, 0, rfl, ⟨hg 0 (by decide), hg 1 (by decide), hg 2 (by decide)⟩, h3, h4, h5⟩
theorem equal_same (ao bo : Option Addr) (ca cb : Nat) (fs : List Int) (w : World) (ha : Row w ao fs.length (fun j => .int .u32 (fs.getD j 0))) (hb : Row w bo fs.length (fun j => .int .u32 (fs.getD j 0))) (hn : fs.length ≤ 100000) :
    Calls Try.prog 42 #[.slice ao fs.length ca, .slice bo fs.length cb] w fun e w' => e = .returned (.bool true) ∧ Below w.heap.size w w' := by
  have := equal_any ao bo fs.length fs.length ca cb _ _ w ha hb hn
  rw [eqL_all fun _ _ => rfl] at this
  exact this
attribute [local go_sem] stillAt
set_option maxRecDepth 100000 in
set_option maxHeartbeats 800000 in
theorem patchMakes_walk (ao bo : Option Addr) (la lb ca cb : Nat) (a b : Nat → Int) (w : World) (ha : Row w ao la (fun j => .int .u32 (a j))) (hb : Row w bo lb (fun j => .int .u32 (b j))) :
    Calls Try.prog 11 #[.slice ao la ca, .slice bo lb cb] w fun e w' => e = .returned (.bool true) ∧ Below w.heap.size w w' := by
  by_cases h1 : 200 < la
  · have d1 : decide (200 < (la : Int)) = true := by simp; omega
    go_enter Try.func11, Try.ntmps11
    go_wp2
    go_ret
    exact ⟨rfl, Below.refl _ _⟩
  · have d1 : decide (200 < (la : Int)) = false := by simp; omega
    by_cases h2 : 200 < lb
    · have d2 : decide (200 < (lb : Int)) = true := by simp; omega
      go_enter Try.func11, Try.ntmps11
      go_wp2
      go_ret
      exact ⟨rfl, Below.refl _ _⟩
    · have d2 : decide (200 < (lb : Int)) = false := by simp; omega
      have HMA := hid (make_any ao bo la lb ca cb a b w ha hb (by omega) (by omega))
      have HMB : Hid (∀ W, Below w.heap.size w W → Calls Try.prog 46 #[.slice ao la ca, .slice bo lb cb] W fun e w' => RefP (makeF a b la lb lb 0 [] []) W e w') := fun W hW => refMake_any ao bo la lb ca cb a b W (ha.below hW) (hb.below hW) (by omega) (by omega)
      obtain ⟨D1, D2, D3, D4, D5⟩ := make_is_done a b la lb
      obtain ⟨qs, hqs⟩ : ∃ qs, makeF a b la lb lb 0 [] [] = qs := ⟨_, rfl⟩
      rw [hqs] at HMA HMB D4 D5
      clear hqs D1 D2 D3 ha hb
      have HD4 := hid D4
      clear D4
      obtain ⟨n, hnn⟩ : ∃ n, qs.length = n := ⟨_, rfl⟩
      have HNN := hid hnn
      have hn : n ≤ 300 := by omega
      clear hnn D5
      go_enter Try.func11, Try.ntmps11
      go_wp2_with fail
      refine HMA.out.mono ?_
      rintro e w1 ⟨v1, ps1, rfl, hown1, hmap1, hok1, b1⟩
      obtain ⟨po, pc, rfl, hpa⟩ := pcs_of_own hown1 hok1
      have hpl1 : ps1.length = n := by rw [← HNN.out, ← hmap1, List.length_map]
      rw [hmap1] at hpa
      rw [hpl1]
      obtain ⟨va, hva⟩ : ∃ va, vaOf ps1 = va := ⟨_, rfl⟩
      obtain ⟨vc, hvc⟩ : ∃ vc, vcOf ps1 = vc := ⟨_, rfl⟩
      rw [hva, hvc] at hpa
      clear hmap1 hok1 hown1 hpl1 hva hvc HMA
      go_wp2_with fail
      refine (HMB.out w1 b1).mono ?_
      rintro e w2 ⟨v2, ps2, rfl, hown2, hmap2, hok2, hb2⟩
      have b2 := b1.trans (hb2.mono b1.size)
      have hpa2 := hpa.below hb2
      obtain ⟨ro, rc, rfl, hpb⟩ := pcs_of_ownE hown2 hok2
      have hpl2 : ps2.length = n := by rw [← HNN.out, ← hmap2, List.length_map]
      rw [hmap2] at hpb
      rw [hpl2]
      obtain ⟨ua, hua⟩ : ∃ ua, vaOf ps2 = ua := ⟨_, rfl⟩
      obtain ⟨uc, huc⟩ : ∃ uc, vcOf ps2 = uc := ⟨_, rfl⟩
      rw [hua, huc] at hpb
      clear hmap2 hok2 hown2 hpl2 hua huc HMB hpa
      have tn : ((n : Int) != (n : Int)) = false := by simp
      go_wp2_with fail
      go_loopw [8] (fun i_ wx => ∃ i : Nat, i_ = .int .i64 i ∧ i ≤ n ∧ Below w2.heap.size w2 wx) (fun i_ _ => n - (intOf i_).toNat)
      case atStart => exact ⟨0, rfl, Nat.zero_le _, Below.refl _ _⟩
      case round =>
        obtain ⟨i, rfl, hin, hbr⟩ := hrel
        have b3 := b2.trans (hbr.mono b2.size)
        rcases Nat.lt_or_ge i n with hlt | hge
        · have t0 : decide ((i : Int) < (n : Int)) = true := by simp; omega
          have hil : i < qs.length := by have := HNN.out; omega
          obtain ⟨g1, o1, rfl, ⟨a0, a1, a2⟩, hra, _, _⟩ := (hpa2.below hbr) i hil
          obtain ⟨g2, o2, rfl, ⟨e0, e1, e2⟩, hrb, _, _⟩ := (hpb.below hbr) i hil
          have hf := HD4.out qs[i] (List.getElem_mem _)
          obtain ⟨p, hpp⟩ : ∃ p, qs[i] = p := ⟨_, rfl⟩
          rw [hpp] at a0 a1 a2 hra e0 e1 e2 hrb hf
          clear hpp
          obtain ⟨fr, mn, fs⟩ := p
          dsimp only at a0 a1 a2 hra e0 e1 e2 hrb hf
          have HEQ : Hid (∀ W, Below wr.heap.size wr W → Calls Try.prog 42 #[.slice (va i) fs.length (vc i), .slice (ua i) fs.length (uc i)] W fun e w' => e = .returned (.bool true) ∧ Below W.heap.size W w') := fun W hW => equal_same _ _ _ _ fs W (hra.below hW) (hrb.below hW) (by omega)
          go_wp2
          refine wp_region_free [35, 36, 37] (fun W => Below wr.heap.size wr W) (by kernel_rfl) (by kernel_rfl) (by exact below_dn (k := 1) (Below.refl _ _)) ?_
          repeat (first | refine wpFl_chain (by rfl) ?_ | (refine wpFl_still (by rfl) (by rfl) (fun K hK => ?_); go_simp; first
            | (refine ⟨_, fun _ _ => rfl, hK _ ?_⟩; clear hK K)
            | (refine ⟨.int .i64 fr, fun W hW => by rw [(hW.cell (cell_lt a0)).trans a0]; rfl, hK _ ?_⟩; clear hK K)
            | (refine ⟨.int .i64 fr, fun W hW => by rw [(hW.cell (cell_lt e0)).trans e0]; rfl, hK _ ?_⟩; clear hK K)
            | (refine ⟨.int .i64 mn, fun W hW => by rw [(hW.cell (cell_lt a1)).trans a1]; rfl, hK _ ?_⟩; clear hK K)
            | (refine ⟨.int .i64 mn, fun W hW => by rw [(hW.cell (cell_lt e1)).trans e1]; rfl, hK _ ?_⟩; clear hK K)
            | (refine ⟨.slice (va i) fs.length (vc i), fun W hW => by rw [(hW.cell (cell_lt a2)).trans a2]; rfl, hK _ ?_⟩; clear hK K)
            | (refine ⟨.slice (ua i) fs.length (uc i), fun W hW => by rw [(hW.cell (cell_lt e2)).trans e2]; rfl, hK _ ?_⟩; clear hK K)))
          refine wpFl_nil ?_
          show wpTs _ _ _ _ 3 _ _ _
          have bd := below_dn (k := 1) (Below.refl wr.heap.size wr)
          refine wpTs_1 (i := 35) (rem1 := [36, 37]) (by kernel_rfl) (by rfl) (by rfl) (fun K hK => ?_)
          go_wp2_with fail
          refine (HEQ.out _ bd).mono ?_
          rintro e w4 ⟨rfl, hb4⟩
          have b4 := bd.trans (hb4.mono bd.size)
          go_wp2_with fail
          refine hK _ _ b4 ?_
          clear hK K
          refine wpTs_1 (i := 36) (rem1 := [37]) (by kernel_rfl) (by rfl) (by rfl) (fun K hK => ?_)
          go_wp2_with fail
          refine hK _ _ b4 ?_
          clear hK K
          refine wpTs_1 (i := 37) (rem1 := []) (by kernel_rfl) (by rfl) (by rfl) (fun K hK => ?_)
          go_wp2_with fail
          refine hK _ _ b4 ?_
          clear hK K
          refine wpTs_0 ?_
          go_wp2
          go_roundw
          case rel => exact ⟨i + 1, by go_num, hlt, hbr.trans (b4.mono hbr.size)⟩
          case measure => simp [intOf]; omega
        · obtain rfl : i = n := by omega
          have t0 : decide ((i : Int) < (i : Int)) = false := by simp
          go_wp2_with fail
          refine (patchAlive_any _).mono ?_
          rintro e w5 ⟨rfl, hb5⟩
          go_wp2_with fail
          go_ret
          exact ⟨rfl, b3.trans (hb5.mono b3.size)⟩
end Go.Proofs.Ytgelgpcpllmnkaa
