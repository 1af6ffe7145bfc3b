/-
  Contract of rle.Pack: the words of the groups.
-/
import Derived.Test.YtgelgpcpllmnkaaRlePack
namespace Go.Proofs.Ytgelgpcpllmnkaa
open Go.RowKit Go.Shelf
attribute [local go_sem] Oper.semAt_some
theorem wrap_u32_in {n : Int} (h0 : 0 ≤ n) (h1 : n < 2 ^ 32) : IntKind.u32.wrap n = n := by
  rw [IntKind.wrap_u32']; exact Int.emod_eq_of_lt h0 h1
theorem or_head {q : Nat} (h : q ≤ 4096) : bits BinOp.or IntKind.u32 2147483648 (IntKind.u32.wrap (q : Int)) = 2147483648 + (q : Int) := by
  rw [wrap_u32_in (by omega) (by omega)]
  exact bits_join .u32 32 (by decide) (fun n h0 h1 => wrap_u32_in h0 h1) 31 _ _ (by decide) (by decide) (by decide) (by omega) (by omega) (by omega)
theorem news2 (W : World) (x y : Value) (t : TypeId) : ∀ (j : Nat) (u : Value), [x, y][j]? = some u → (W.alloc (Obj.cells #[x, y] t)).cell? ((⟨W.heap.size, 0, none⟩ : Addr).add j) = some u := fun j u hj => by
  rw [add_off, Nat.zero_add, World.cell?_alloc_at _ _ _ _ rfl]; simpa using hj
theorem news1 (W : World) (x : Value) (t : TypeId) : ∀ (j : Nat) (u : Value), [x][j]? = some u → (W.alloc (Obj.cells #[x] t)).cell? ((⟨W.heap.size, 0, none⟩ : Addr).add j) = some u := fun j u hj => by
  rw [add_off, Nat.zero_add, World.cell?_alloc_at _ _ _ _ rfl]; simpa using hj
theorem own_others {X Y : World} {base : Nat} {e : TypeId} {size : Nat} {v : Value} {k : Nat} {xs : List Value} (h : X.ownsRow base e size v k xs) (hg : X.grownBy Y v.ownBlock) : KeepsOthers X Y :=
  KeepsOthers.of_grownBy hg fun j o ej hj => by
    rcases h.2 with ⟨rfl, _⟩ | ⟨g, cap, cur, rfl, _, hgb, _⟩
    · cases ej
    · cases ej
      rw [hgb] at hj; cases hj; rfl
theorem infoU32 : (Try.prog.info? 72).map (fun i => (i.zero, i.size, i.bytes)) = some (some (.int .u32 0), 1, 4) := by kernel_rfl
attribute [local go_sem] Oper.quietS Oper.effS effUpon Drawn
set_option maxRecDepth 100000 in
set_option maxHeartbeats 2000000 in
theorem pack_any (ao : Option Addr) (n c : Nat) (f : Nat → Int) (w : World) (hrow : Row w ao n (fun j => .int .u32 (f j))) (hn : n ≤ 100000) (hc : n ≤ c) (hcm : c ≤ maxLen) :
    Calls Try.prog 38 #[.slice ao n c] w fun e w' => ∃ v, e = .returned v ∧ w'.ownsRow w.heap.size 72 1 v (packF f n).length (u32L (packF f n)) ∧ Below w.heap.size w w' := by
  obtain ⟨i0, hi, hz0, hz1, hz2⟩ := info_parts infoU32
  obtain ⟨b, o, hao⟩ : ∃ b o, 0 < n → ao = some ⟨b, o, none⟩ := by
    rcases Nat.eq_zero_or_pos n with h | h
    · exact ⟨0, 0, fun h' => by omega⟩
    · obtain ⟨b, o, e, _⟩ := hrow 0 h
      exact ⟨b, o, fun _ => e⟩
  have hrow' : Row w (some ⟨b, o, none⟩) n (fun j => .int .u32 (f j)) := fun i hi => by
    have := hrow i hi
    rwa [hao (by omega)] at this
  clear hrow
  refine (callsIn_wide (n := 8)).1 ?_
  refine callsIn_of_wp_marks Try.func38 rfl trivial ?_ rfl
  simp only [Try.ntmps38, List.size_toArray, List.length_cons, List.length_nil, Nat.reduceAdd, Nat.reduceSub, Array.replicate_succ, Array.replicate_zero, List.push_toArray, List.append_toArray, List.nil_append, List.cons_append]
  have hv1 := Boxed.new w 71 (.slice none 0 0)
  have hv2 := Boxed.new (w.alloc (.cells #[.slice none 0 0] 71)) 71 (.slice ao n c)
  rw [World.size_alloc] at hv2
  have hB0 : Below w.heap.size w ((w.alloc (.cells #[.slice none 0 0] 71)).alloc (.cells #[.slice ao n c] 71)) := (((Below.refl _ w).alloc (Nat.le_refl _) _).alloc (by simp) _)
  have hI0 : SeqI w f n c (some ⟨b, o, none⟩) [] ((w.alloc (.cells #[.slice none 0 0] 71)).alloc (.cells #[.slice ao n c] 71)) :=
    ⟨Nat.zero_le _, rfl, Nat.zero_le _, ⟨ao, hv2, fun h => by rw [hao h]; rfl⟩, ⟨_, hv1.alloc _, World.ownsRow_nil _ _ _ _⟩, hB0⟩
  have HT := hid (groups1_turns 7 (by omega) b o n c f w ((w.alloc (.cells #[.slice none 0 0] 71)).alloc (.cells #[.slice ao n c] 71)) hn hc hcm hrow' (by simp) (fun W1 h => seqI_own w f n c _ _ (Nat.le_refl _) _ _ _ _ hI0 h (fun r e => by cases e)))
  clear hv1 hv2 hI0
  gi_wp2_with (refine ⟨trivial, ?_⟩; gi_at_call 54; refine (callsIn_wide.2 (groups_any ao n c _)).mono ?_; rintro e w1 ⟨rfl, rfl⟩)
  refine range_turns rfl (by omega) (gf := 62) (lb := #[.pointer (some ⟨w.heap.size + 1, 0, none⟩)]) rfl trivial (enters_of Try.func62 (by kernel_rfl) rfl) (fun _ => rfl) HT.out (Calm.of (seqI_own w f n c _ _ (by simp; omega))) (Calm.of (seqI2_own w f n c _ _ (by simp; omega))) (fun _ => fun _ _ _ _ _ h _ _ _ => h)
    (fun x => { tmps := #[.slice ao n c, undef, .slice none 0 0, .pointer (some ⟨w.heap.size, 0, none⟩), .bool x.1, .slice (addrAt (some ⟨b, o, none⟩) x.2.1) x.2.2 x.2.2, .slice ao n c, .func (.func 62) #[] #[.pointer (some ⟨w.heap.size + 1, 0, none⟩)], .bool x.1, .slice (addrAt (some ⟨b, o, none⟩) x.2.1) x.2.2 x.2.2, undef, undef, undef, undef, undef, undef, undef, undef, undef, undef, undef, undef, undef, undef, undef, undef, undef, undef, undef, undef], defers := [] }) ?assign ?body ?done ?stop
  case assign =>
    intro l x W K hK
    simp only [encG]
    gi_wp2
    exact hK
  case body =>
    rintro l pre ⟨s, k, q⟩ W hI hF
    have hgp := grpAt_pos (f := f) hF.1
    rw [← hF.2] at hgp
    obtain ⟨hq0, hqn, hq4, rfl⟩ := hgp
    have hIk := hI
    obtain ⟨hk, hG, hwd, hLf, ⟨v, hv, hr⟩, hB⟩ := hI
    obtain ⟨k, hkp⟩ : ∃ k, pos pre = k := ⟨_, rfl⟩
    have hrk := ((hrow'.below hB).from (k := k) (by omega)).less (m := q) (by have := hqn; simp only at this; omega)
    rw [hkp] at hq0 hqn hF hwd ⊢
    have hq0 : 0 < q := hq0
    have hqn : k + q ≤ n := hqn
    have hq4 : q ≤ 4096 := hq4
    have hc0 := hv.cell
    have ha : addrAt (some ⟨b, o, none⟩) k = some ⟨b, o + k, none⟩ := rfl
    cases s
    · rw [ha]
      have hsz := hid hB.size
      have hnews := news1 W (Value.int .u32 (q : Int)) 72
      have HWR : IntKind.u32.wrap (q : Int) = (q : Int) := wrap_u32_in (by omega) (by omega)
      gi_wp2_with (first
        | (gi_at_builtin; refine wpListIn_append_own _ rfl _ _ 71 rfl w.heap.size 72 i0 (.int .u32 0) 1 4 Try.underlying71 hi hz0 hz1 hz2 rfl (by decide) _ _ _ rfl (hr.alloc _) ⟨W.heap.size, 0, none⟩ 1 1 _ rfl rfl hnews (by simp [Value.oneCell']) (by unfold maxLen; omega) (by omega) (by have := hsz.out; simp; omega) ?_; intro v' w1 hown1 hgrow1 _; clear hnews; have hb1 := (hB.alloc hB.size _).grown hgrow1 (by have := hsz.out; simp; omega) (fun j hj => (hr.lt j hj).1); have hrk1 := ((hrow'.below hb1).from (k := k) (by omega)).less (m := q) (by omega); have hsz1 := hid hb1.size)
        | (gi_at_builtin; refine wpListIn_append_own _ rfl _ _ 71 rfl w.heap.size 72 i0 (.int .u32 0) 1 4 Try.underlying71 hi hz0 hz1 hz2 rfl (by decide) _ _ _ rfl hown1 ⟨b, o + k, none⟩ q q _ rfl (by simp) (news_row hrk1) (news_one fun _ => rfl) (by unfold maxLen; omega) (by omega) hsz1.out ?_; intro v2 w2 hown2 hgrow2 _; obtain ⟨g', cap', rfl⟩ : ∃ g' cap', v2 = .slice (some ⟨g', 0, none⟩) ((words f pre).length + 1 + q) cap' := (own_form hown2 (by omega)).imp fun _ h => h.imp fun _ h => h.1; have hv1 := (hv.alloc _).kept hgrow1 (hv.not_row (by decide) hr); have hv2 := hv1.kept hgrow2 (hv1.not_row (by decide) hown1); have hc2 := hv2.cell; have hf2 := hv2.frozen))
      obtain ⟨ao', hb0, he⟩ := hLf
      have hb3 := ((hb0.alloc _).kept hgrow1 (hb0.not_row (by decide) hr))
      have hb4 := hb3.kept hgrow2 (hb3.not_row (by decide) hown1)
      refine ⟨((((KeepsOthers.alloc W _).trans (own_others (hr.alloc _) hgrow1)).trans (own_others hown1 hgrow2)).trans (KeepsOthers.setCell _ _ _)).from _, hF, hG, ?_, ⟨ao', hb4.other (by omega) _, he⟩, ⟨_, hv2.set _, ?_⟩, (hb1.grown hgrow2 hb1.size fun j hj => (hown1.lt j hj).1).setCell (p := ⟨w.heap.size, 0, none⟩) (Nat.le_refl _) _⟩
      · rw [words_snoc, pos_snoc, hkp]; simp [gwords]; omega
      · have hfin := hown2.kept (grownBy_setCell' w2 w.heap.size (.slice (some ⟨g', 0, none⟩) ((words f pre).length + 1 + q) cap')) (.inr (hv2.not_row (by decide) hown2).symm)
        rw [words_snoc, List.length_append, show (gwords f (false, k, q)).length = 1 + q by simp [gwords]; omega, ← Nat.add_assoc]
        simpa [gwords, u32L, Function.comp_def] using hfin
    · have g0 : W.cell? ⟨b, o + k, none⟩ = some (.int .u32 (f k)) := hrk.cellAt (i := 0) (by omega)
      obtain ⟨Ws, hWs⟩ : ∃ Ws, Ws = two W (Obj.cells #[Value.int .u32 (2147483648 + (q : Int)), .int .u32 (f k)] 72) := ⟨_, rfl⟩
      have s0 : ∀ s, (Ws s).cell? ⟨w.heap.size, 0, none⟩ = some v := fun s => by rw [hWs]; exact cell_two hc0 _ _
      have s1 : ∀ s, (Ws s).cell? ⟨b, o + k, none⟩ = some (.int .u32 (f k)) := fun s => by rw [hWs]; exact cell_two g0 _ _
      have HOR : bits BinOp.or IntKind.u32 2147483648 (IntKind.u32.wrap (q : Int)) = 2147483648 + (q : Int) := or_head hq4
      have HW := hid hWs
      clear hWs
      have t0 : decide ((0 : Int) < (q : Int)) = true := by simp; omega
      rw [ha]
      gi_wp2
      refine wpIn_region_stage 9 (Drawn Ws) (by kernel_rfl) (by kernel_rfl) (by kernel_rfl) (fun ⟨_, _, h⟩ => h) (Drawn.start _ _ (by rw [HW.out]; rfl)) ?_
      simp only [List.take_succ_cons, List.take_zero, List.drop_succ_cons, List.drop_zero]
      repeat (refine wpStg_quiet (by rfl) (by rfl) (fun K hK => ?_); go_simp; (refine hK _ ?_; clear hK K))
      refine wpStg_eff (by rfl) (by rfl) (fun K hK => ?_)
      go_simp
      refine ⟨_, fun n => ⟨rfl, n, by rw [HW.out]; rfl⟩, hK _ ?_⟩
      clear hK K
      refine wpStg_nil ?_
      rintro _ ⟨nq, rfl⟩
      rw [show Ws 1 = W.alloc _ by rw [HW.out]; rfl]
      obtain ⟨Wd, hWd⟩ : ∃ Wd, Wd = W.drewN nq := ⟨_, rfl⟩
      rw [show (W.alloc (Obj.cells #[Value.int .u32 (2147483648 + (q : Int)), .int .u32 (f k)] 72)).drewN nq = Wd.alloc (Obj.cells #[Value.int .u32 (2147483648 + (q : Int)), .int .u32 (f k)] 72) by rw [hWd]; rfl]
      have hvd : Boxed Wd w.heap.size 71 v := by rw [hWd]; exact hv
      have hrd : Wd.ownsRow w.heap.size 72 1 v (words f pre).length (u32L (words f pre)) := by rw [hWd]; exact hr
      have hKd : KeepsOthers W Wd := by rw [hWd]; exact ⟨Nat.le_refl _, fun _ _ h _ => h⟩
      have hBd : Below w.heap.size W Wd := by rw [hWd]; exact ⟨rfl, rfl, rfl, Nat.le_refl _, fun _ _ => rfl⟩
      have hLd : LeftI w n c (some ⟨b, o, none⟩) (pos pre) Wd := by rw [hWd]; exact hLf
      have hze : (Ws 0).heap.size = Wd.heap.size := by rw [HW.out, hWd]; rfl
      rw [hze]
      have hnews := news2 Wd (Value.int .u32 (2147483648 + (q : Int))) (.int .u32 (f k)) 72
      have hBd' := hBd
      have hsz := hid (hB.trans hBd).size
      clear hWd HW s0 s1 hze
      go_wp2_with (at_builtin; refine wpList_append_own _ rfl _ _ 71 rfl w.heap.size 72 i0 (.int .u32 0) 1 4 Try.underlying71 hi hz0 hz1 hz2 rfl (by decide) _ _ _ rfl (hrd.alloc _) ⟨Wd.heap.size, 0, none⟩ 2 2 _ rfl (by simp) hnews (by simp [Value.oneCell']) (by unfold maxLen; omega) (by omega) (by have := hsz.out; simp; omega) ?_; intro v' w1 hown' hgrow _; obtain ⟨g', cap', rfl⟩ := ownsRow_succ hown'; obtain ⟨hv1, hv2, hr2, hk2, hb2⟩ := hvd.appended (by decide) hrd hsz.out (Nat.le_refl _) hown' hgrow; have hc1 := hv1.cell; have hf1 := hv1.frozen)
      gi_wp2
      obtain ⟨ao', hb0, he⟩ := hLd
      refine ⟨(hKd.trans hk2).from _, hF, hG, ?_, ⟨ao', ((hb0.alloc _).kept hgrow (hb0.not_row (by decide) hrd)).other (by omega) _, he⟩, ⟨_, hv2, ?_⟩, (hB.trans hBd').trans hb2⟩
      · rw [words_snoc, pos_snoc, hkp]; simp [gwords]; omega
      · rw [words_snoc]
        simpa [gwords, u32L] using hr2
  case done =>
    rintro D ys W hD rfl hI hK
    obtain ⟨_, _, _, _, ⟨v, hv, hr⟩, hB⟩ := hI
    have hc0 := hv.cell
    gi_wp2
    refine ⟨by simp, .inl ⟨_, _, rfl, run_takeDeferred hK, ?_⟩⟩
    exact ⟨_, results_tmp rfl _ _ _, v, rfl, ownsRow_putObj hr _ hK rfl, hB.trans (belowK_b (w := w) (Nat.le_refl _) W D _ _ (by simp at hD; omega) hK rfl rfl)⟩
  case stop =>
    rintro D c p W _ h _
    exact h.elim
end Go.Proofs.Ytgelgpcpllmnkaa
