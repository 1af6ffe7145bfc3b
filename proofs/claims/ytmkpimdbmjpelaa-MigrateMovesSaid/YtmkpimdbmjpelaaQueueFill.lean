/-
  Contract of Fill, over whatever iterator of numbers, as long as the rounds keep one block that is not the queue's own.
-/
import Derived.Test.YtmkpimdbmjpelaaValues
import Derived.Test.YtmkpimdbmjpelaaFreeIn
import Derived.Test.YtmkpimdbmjpelaaQueueFillLaw
namespace Go.Proofs.Ytmkpimdbmjpelaa
open Go.RowKit Go.Shelf
attribute [local go_sem] Oper.semAt_some Oper.quietS Oper.effS effUpon Drawn stillAt
theorem kpr_b {n₀ : Nat} {lo : Option Addr} (W : World) (l : Nat) (o o' : Obj) (_hl : n₀ ≤ l) (h : W.heap[l]? = some o) (hc : o.isCells = false) (_hw : o.isWalk = false) : KpR lo W (W.putObj l o') := by
  refine ⟨(grownBy_putObj' W l o').size, fun a _ x hx hxc => ?_⟩
  refine ((grownBy_putObj' W l o').block a.block (Array.getElem?_eq_some_iff.1 hx).1 fun e => ?_).trans hx
  obtain rfl : a.block = l := by simpa using e
  rw [h] at hx; cases hx; rw [hc] at hxc; cases hxc
theorem kpr_save {S : Nat → Prop} {lo : Option Addr} {W W' : World} (h : Save S W W') (hn : ∀ a, lo = some a → ¬ S a.block) : KpR lo W W' := ⟨h.size, fun a e _ ho _ => blk_save ho h (hn a e)⟩
theorem fill_bounds {cap : Nat} (hc : 1 ≤ cap) {xs : List Int} (hx : xs.length ≤ cap) (L : List Int) : (fillL cap xs 0 L).1.length ≤ cap ∧ (fillL cap xs 0 L).2 ≤ L.length := by
  rw [fillL_is cap hc xs hx 0 _ L rfl]
  simp only [lastF_len, List.length_append]
  omega
/-- What Fill's rounds hold: the queue so far, and how many were dropped. -/
structure FillI (base p cap : Nat) (pol d : Int) (v : Value) (xs : List Int) (w w1 : World) (pre : List Int) (W : World) : Prop where
  q : ∃ v', QAt W base p cap pol v' (fillL cap xs 0 pre).1 d ∧ Heir w1 v v'
  bq : Boxed W w.heap.size 39 (.pointer (some ⟨p, 0, none⟩))
  bo : Boxed W (w.heap.size + 1) 3 (.int .i64 (fillL cap xs 0 pre).2)
  s : Save (fun k => k = p ∨ v.ownBlock = some k) w W
theorem fillI_own {base p cap : Nat} {pol d : Int} {v : Value} {xs : List Int} {w w1 : World} (h1 : w.heap.size ≤ w1.heap.size) : OwnFrom w1.heap.size (FillI base p cap pol d v xs w w1) := fun pre A B row hs hg hr => by
  obtain ⟨⟨v', hq, hv⟩, bq, bo, s⟩ := hs
  have hS := Save.of_grown hg
  have hnot : ∀ {k : Nat} {o : Obj}, A.heap[k]? = some o → o.isCells = true → row ≠ some k := fun ho hc e => by
    obtain ⟨_, o', ho', hc'⟩ := hr _ e
    rw [ho] at ho'; cases ho'; rw [hc] at hc'; cases hc'
  refine ⟨⟨v', hq.save hS (hnot hq.blk rfl) fun g hg' e => ?_, hv⟩, bq.kept hg (fun e => hnot bq rfl e.symm), bo.kept hg (fun e => hnot bo rfl e.symm), s.trans hS fun i hi e => ?_⟩
  · rcases hq.row.2 with ⟨hn, _⟩ | ⟨g', _, _, hn, _, hb, _⟩
    · rw [hn] at hg'; cases hg'
    · rw [hn] at hg'; cases hg'; exact hnot hb rfl e
  · have := (hr i e).1; omega
theorem own_others {X Y : World} {base : Nat} {e : TypeId} {size : Nat} {v : Value} {k : Nat} {xs : List Value} (h : X.ownsRow base e size v k xs) (hg : X.grownBy Y v.ownBlock) : KeepsOthers X Y :=
  KeepsOthers.of_grownBy hg fun j o ej hj => by
    rcases h.2 with ⟨rfl, _⟩ | ⟨g, cap, cur, rfl, _, hgb, _⟩
    · cases ej
    · cases ej
      rw [hgb] at hj; cases hj; rfl
/-- The cells that a round reads. -/
structure FillC (B p : Nat) (u : Value) (X : World) : Prop where
  q : X.cell? ⟨B, 0, none⟩ = some (.pointer (some ⟨p, 0, none⟩))
  l : X.cell? ⟨p, 2, none⟩ = some u
def FillPost (base p cap : Nat) (pol d : Int) (v : Value) (xs L : List Int) (w : World) (e : Ending) (w' : World) : Prop :=
  e = .returned (.int .i64 (fillL cap xs 0 L).2) ∧ ∃ v', QAt w' base p cap pol v' (fillL cap xs 0 L).1 (min (d + (fillL cap xs 0 L).2) 4096) ∧ Heir w v v' ∧ Save (fun k => k = p ∨ v.ownBlock = some k) w w'
set_option maxRecDepth 100000 in
set_option maxHeartbeats 2000000 in
theorem fill_any (gf : Nat) (lb : Array Value) (base p : Nat) (cap : Nat) (pol d : Int) (v : Value) (xs L : List Int) (lo : Option Addr) (w : World) (hq : QAt w base p cap pol v xs d) (hbw : base ≤ w.heap.size) (hcap : 1 ≤ cap ∧ cap ≤ 16) (hlen : xs.length ≤ cap) (hd : 0 ≤ d ∧ d ≤ 4096)
    (hLl : L.length ≤ 100) (hlp : ∀ a, lo = some a → a.block < w.heap.size ∧ a.block ≠ p ∧ v.ownBlock ≠ some a.block) (eg : ∀ args w, (callFunc gf args).run Try.prog w = .ok (.enter gf args) w)
    (hseq : SeqStopsK Fence.wide 7 Try.prog gf lb (fun x : Int => #[.int .i64 x]) (KpR lo) (fun ys => ys = L) (fun pre => pre <+: L) L.length w) :
    Calls Try.prog 33 #[.pointer (some ⟨p, 0, none⟩), .func (.func gf) #[] lb] w fun e w' => FillPost base p cap pol d v xs L w e w' := by
  obtain ⟨i0, hi, hz0, hz1, hz2⟩ := info_parts infoInt
  refine (callsIn_wide (n := 8)).1 ?_
  refine callsIn_of_wp_marks Try.func33 rfl trivial ?_ rfl
  simp only [Try.ntmps33, List.size_toArray, List.length_cons, List.length_nil, Nat.reduceAdd, Nat.reduceSub, Array.replicate_succ, Array.replicate_zero, List.push_toArray, List.append_toArray, List.nil_append, List.cons_append]
  have hpw := hq.lt
  have hvw : ∀ g, v.ownBlock = some g → g < w.heap.size := fun g hg => (hq.row.lt g hg).2
  have hb0 := Boxed.new w 39 (.pointer (some ⟨p, 0, none⟩))
  have hb1 := Boxed.new (w.alloc (Obj.cells #[.pointer (some ⟨p, 0, none⟩)] 39)) 3 (.int .i64 0)
  rw [World.size_alloc] at hb1
  gi_wp2
  obtain ⟨w1, hw1⟩ : ∃ w1, w1 = (w.alloc (Obj.cells #[.pointer (some ⟨p, 0, none⟩)] 39)).alloc (Obj.cells #[.int .i64 0] 3) := ⟨_, rfl⟩
  have hB0 : Below w.heap.size w w1 := by rw [hw1]; exact ((Below.refl _ w).alloc (Nat.le_refl _) _).alloc (by simp) _
  have hsz1 : Hid (w1.heap.size = w.heap.size + 2) := by show _ = _; rw [hw1]; simp
  have hI0 : FillI base p cap pol d v xs w w1 [] w1 := ⟨⟨v, hq.save (Save.of_below hB0 fun _ => False) id fun _ _ => id, heir_refl _ _⟩, by rw [hw1]; exact hb0.alloc _, by rw [hw1]; exact hb1, Save.of_below hB0 _⟩
  rw [← hw1]
  clear hw1 hb0 hb1
  refine wpIn_rangeFunc_ownF rfl (by omega) (gf := gf) (lb := lb) rfl trivial eg hseq KpR.t kpr_b hB0 (fun _ => rfl)
    (FillI base p cap pol d v xs w w1) (fun _ _ _ => False) (fillI_own hB0.size) (fun _ _ _ _ _ h _ _ => h) hI0
    (fun x => { tmps := #[.pointer (some ⟨p, 0, none⟩), .func (.func gf) #[] lb, .pointer (some ⟨w.heap.size, 0, none⟩), undef, .int .i64 0, .pointer (some ⟨w.heap.size + 1, 0, none⟩), .int .i64 x, .func (.func gf) #[] lb, .int .i64 x, undef, undef, undef, undef, undef, undef, undef, undef, undef, undef, undef, undef, undef, undef, undef, undef, undef, undef, undef, undef, undef, undef, undef, undef, undef, undef, undef, undef, undef, undef, undef, undef, undef, undef, undef, undef], defers := [] }) ?assign ?body ?done ?stop
  case assign =>
    intro l x W K hK
    gi_wp2
    exact hK
  case body =>
    rintro l pre x W hI hlt
    obtain ⟨⟨v', hq', hv'⟩, bq, bo, sv⟩ := hI
    have hF := hid (fillL_snoc cap pre xs 0 x)
    obtain ⟨hyl, hkl⟩ := fill_bounds hcap.1 hlen pre
    obtain ⟨⟨ys, k⟩, hyk⟩ : ∃ y, fillL cap xs 0 pre = y := ⟨_, rfl⟩
    rw [hyk] at hF hq' bo hyl hkl
    simp only at hF hq' bo hyl hkl
    clear hyk
    have hvn : ∀ g, v'.ownBlock = some g → g ≠ w.heap.size ∧ g ≠ w.heap.size + 1 ∧ ∀ a, lo = some a → a.block ≠ g := fun g hg => by
      have h1 := hsz1.out
      rcases hv' g hg with e | e
      · have := hvw g e
        exact ⟨by omega, by omega, fun a ha ea => (hlp a ha).2.2 (ea ▸ e)⟩
      · exact ⟨by omega, by omega, fun a ha ea => by have := (hlp a ha).1; omega⟩
    obtain ⟨ao, c, rfl, hac, hacm, hra, hpos⟩ := vi_view hq'.row
    have c0 := hq'.c0
    have c2 := hq'.c2
    have cq := bq.cell
    obtain ⟨n, hn⟩ : ∃ n, ys.length = n := ⟨_, rfl⟩
    by_cases hfull : n = cap
    · have t0 : ((n : Int) == (cap : Int)) = true := by simp [hfull]
      have HN := hid hn
      rw [hn] at c2 hra hpos hyl hac hF
      have HQ := hid hq'
      clear hn hq'
      gi_wp2
      refine wpIn_region_stage 11 (Drawn fun _ => W) (by kernel_rfl) (by kernel_rfl) (by kernel_rfl) (fun ⟨_, _, h⟩ => h) (Drawn.start _ _ rfl) ?_
      simp only [List.take_succ_cons, List.take_zero, List.drop_succ_cons, List.drop_zero]
      repeat (refine wpStg_quiet (by rfl) (by rfl) (fun K hK => ?_); go_simp; (refine hK _ ?_; clear hK K))
      refine wpStg_nil ?_
      rintro _ ⟨nq, rfl⟩
      obtain ⟨Wa, hWa⟩ : ∃ Wa, Wa = W.drewN nq := ⟨_, rfl⟩
      have hqW : QAt Wa base p cap pol (.slice ao ys.length c) ys d := by rw [hWa]; exact HQ.out.drewN nq
      have hbq : Boxed Wa w.heap.size 39 (.pointer (some ⟨p, 0, none⟩)) := by rw [hWa]; exact bq
      have hbo : Boxed Wa (w.heap.size + 1) 3 (.int .i64 (k : Int)) := by rw [hWa]; exact bo
      have hsW : Save (fun k => k = p ∨ v.ownBlock = some k) w Wa := by rw [hWa]; exact Save.drewN _ sv
      have hko : KeepsOthers W Wa := by rw [hWa]; exact ⟨Nat.le_refl _, fun _ _ h _ => h⟩
      have hkp : KpR lo W Wa := by rw [hWa]; exact ⟨Nat.le_refl _, fun _ _ _ h _ => h⟩
      have hrw : Row Wa ao n (fun i => .int .i64 (ys.getD i 0)) := by rw [hWa]; exact hra
      have hFF := hid (show fillL cap xs 0 (pre ++ [x]) = (ys.drop 1 ++ [x], k + 1) by rw [hF.out, if_pos hfull])
      rw [← hWa]
      clear hWa HQ hF c0 c2 cq hra t0
      subst hfull
      obtain ⟨g, rfl, hg⟩ := hpos (by omega)
      go_wp2
      gi_wp2
      have c2 := hqW.c2
      have cq := hbq.cell
      rw [HN.out] at c2
      have hm2 : 1 ≤ n ∧ n ≤ 16 := by omega
      refine wpIn_region_free [6, 7, 8, 9] (FillC w.heap.size p (.slice (some ⟨g, 0, none⟩) n c)) (by kernel_rfl) (by kernel_rfl) (by kernel_rfl) (fun ⟨_, _, h⟩ => h) ⟨cq, c2⟩ ?_
      iterate 2
        refine wpFl_still (by rfl) (by rfl) (fun K hK => ?_)
        go_simp
        refine ⟨.pointer (some ⟨p, 0, none⟩), fun X hX => by rw [hX.q]; rfl, hK _ ?_⟩
        clear hK K
      iterate 2 (refine wpFl_still (by rfl) (by rfl) (fun K hK => ?_); go_simp; (refine ⟨_, fun _ _ => rfl, hK _ ?_⟩; clear hK K))
      refine wpFl_still (by rfl) (by rfl) (fun K hK => ?_)
      go_simp
      refine ⟨.slice (some ⟨g, 0, none⟩) n c, fun X hX => by rw [hX.l]; rfl, hK _ ?_⟩
      clear hK K
      obtain ⟨ad, had⟩ : ∃ ad, (if c = 1 then some (⟨g, 0, none⟩ : Addr) else some ⟨g, 1, none⟩) = some ad := by split <;> exact ⟨_, rfl⟩
      have hadm : 1 < n → ad = ⟨g, 1, none⟩ := fun h => by rw [if_neg (by omega)] at had; exact (Option.some.inj had).symm
      refine wpFl_still (by rfl) (by rfl) (fun K hK => ?_)
      go_simp
      refine ⟨.slice (some ad) (n - 1) (c - 1), fun X _ => by rw [if_pos (by omega)], hK _ ?_⟩
      clear hK K
      repeat (first | refine wpFl_chain (by rfl) ?_ | (refine wpFl_still (by rfl) (by rfl) (fun K hK => ?_); go_simp; (refine ⟨_, fun _ _ => rfl, hK _ ?_⟩; clear hK K)))
      refine wpFl_nil ?_
      show wpTs _ _ _ _ 4 _ _ _
      have hb1 : Below Wa.heap.size Wa Wa.drew := ⟨rfl, rfl, rfl, Nat.le_refl _, fun _ _ => rfl⟩
      obtain ⟨Y1, hY1⟩ : ∃ Y1, Y1 = Wa.drew := ⟨_, rfl⟩
      have hko1 : KeepsOthers Wa Y1 := by rw [hY1]; exact KeepsOthers.drew _
      have hnews : ∀ (j : Nat) (u : Value), (vi (ys.drop 1))[j]? = some u → Y1.cell? (ad.add j) = some u := fun j u hj => by
        have hjl : j < n - 1 := by
          have := (List.getElem?_eq_some_iff.1 hj).1
          have h2 := HN.out
          rw [vi_length, List.length_drop] at this; omega
        have := hrw.cellAt (i := 1 + j) (by omega)
        rw [hY1, hadm (by omega), add_off, show Wa.drew.cell? ⟨g, 1 + j, none⟩ = Wa.cell? ⟨g, 1 + j, none⟩ from rfl, ← hj]
        rw [Nat.zero_add] at this
        rw [this]
        have h2 := HN.out
        simp only [vi, List.getElem?_map, List.getElem?_drop, List.getD]
        rw [List.getElem?_eq_getElem (by omega)]; rfl
      rw [← hY1] at hb1 ⊢
      clear hY1
      have hvl : (vi (ys.drop 1)).length = (n - 1) * 1 := by rw [vi_length, List.length_drop, HN.out]; omega
      have hq1 := hqW.save (Save.of_below hb1 fun _ => False) id fun _ _ => id
      have hbq1 := hbq.kept (below_grownQ hb1) (by simp)
      have hbo1 := hbo.kept (below_grownQ hb1) (by simp)
      have hszY : w.heap.size ≤ Y1.heap.size := Nat.le_trans hsW.size hb1.size
      refine wpTs_1 (i := 6) (rem1 := [7, 8, 9]) (by kernel_rfl) (by rfl) (by rfl) (fun K hK => ?_)
      refine wpList_append_own_at _ rfl _ _ 24 rfl base 3 i0 (.int .i64 0) 1 8 Try.underlying24 hi hz0 hz1 hz2 rfl (by decide) (.slice none 0 0) 0 [] rfl (World.ownsRow_nil Y1 base 3 1) ad (n - 1) (c - 1) (vi (ys.drop 1)) rfl hvl hnews (vi_one _) (by unfold maxLen; omega) (by omega) (Nat.le_trans hbw hszY) ?_
      intro v3 W3 hown3 hgrow3 _ hat3
      have hblk3 := blk_save hq1.blk (Save.of_grown hgrow3) (fun e => by cases e)
      have hbq3 := hbq1.kept hgrow3 (fun e => by cases e)
      have hbo3 := hbo1.kept hgrow3 (fun e => by cases e)
      have hko3 : KeepsOthers Y1 W3 := KeepsOthers.of_grownBy hgrow3 fun j o ej _ => by cases ej
      have hs3 : Save (fun _ => False) Y1 W3 := (Save.of_grown hgrow3).mono fun _ e => by cases e
      have hC3 : FillC w.heap.size p (.slice (some ⟨g, 0, none⟩) n c) W3 := ⟨hbq3.cell, by rw [← HN.out]; exact blk_cell hblk3 2⟩
      refine hK _ _ hC3 ?_
      go_simp
      clear hK K
      refine wpTs_1 (i := 7) (rem1 := [8, 9]) (by kernel_rfl) (by rfl) (by rfl) (fun K hK => ?_)
      go_wp2_with fail
      refine hK _ _ hC3 ?_
      clear hK K
      refine wpTs_1 (i := 8) (rem1 := [9]) (by kernel_rfl) (by rfl) (by rfl) (fun K hK => ?_)
      go_wp2_with fail
      refine hK _ _ hC3 ?_
      clear hK K
      have hown3' : W3.ownsRow base 3 1 v3 (ys.drop 1).length (vi (ys.drop 1)) := by rw [Nat.zero_add, List.nil_append] at hown3; rw [List.length_drop, HN.out]; exact hown3
      have hlen3 : (ys.drop 1).length ≤ 15 := by rw [List.length_drop, HN.out]; omega
      obtain ⟨zs, hzs⟩ : ∃ zs, ys.drop 1 = zs := ⟨_, rfl⟩
      rw [hzs] at hown3' hFF hlen3
      clear hown3 hnews hvl hzs
      obtain ⟨ao5, c5, rfl, _, _, _, _⟩ := vi_view hown3'
      have hc3 := hC3.l
      have hf3 := blk_frozen hblk3 2
      refine wpTs_last (i := 9) (rem1 := []) (by kernel_rfl) (by rfl) (by rfl) (by kernel_rfl) (fun K hK => ?_)
      go_wp2_with fail
      refine wpTs_0 ?_
      have hsz2 := hsz1.out
      have hbol := hbo3.lt
      have hfin := qset hblk3 hown3' hqW.low
      have hsb := Save.set W3 p 2 (.slice ao5 zs.length c5)
      have hboW := blk_save hbo3 hsb (by omega)
      have hbqW := blk_save hbq3 hsb (by omega)
      have hcW := Boxed.cell hboW
      have hfW := Boxed.frozen hboW
      have hs5 : Save (fun k => k = p ∨ v.ownBlock = some k) w (W3.setCell ⟨p, 2, none⟩ (.slice ao5 zs.length c5)) := ((hsW.trans (Save.of_below hb1 fun _ => False) fun _ _ h => h.elim).trans hs3 fun _ _ h => h.elim).trans hsb fun _ _ h => .inl h
      have hp5 : Save (fun k => k = p) Wa (W3.setCell ⟨p, 2, none⟩ (.slice ao5 zs.length c5)) := ((Save.of_below hb1 fun k => k = p).trans hs3 fun _ _ h => h.elim).trans hsb fun _ _ h => h
      have hko5 := ((hko.trans hko1).trans hko3).trans (KeepsOthers.setCell W3 ⟨p, 2, none⟩ (.slice ao5 zs.length c5))
      obtain ⟨W5, hW5⟩ : ∃ W5, W5 = W3.setCell ⟨p, 2, none⟩ (.slice ao5 zs.length c5) := ⟨_, rfl⟩
      rw [← hW5] at hfin hboW hbqW hcW hfW hs5 hp5 hko5 ⊢
      clear hW5 hsb hc3 hf3 hC3 hko3 hs3 hbo3 hbq3 hblk3 hgrow3 hbo1 hbq1 hq1
      gi_wp2
      have hvn5 : ∀ g, (Value.slice ao5 zs.length c5).ownBlock = some g → w1.heap.size ≤ g := fun g hg => by
        rcases hat3 with e | e
        · rw [e] at hg; cases hg
        · rw [e] at hg; cases hg
          have := hb1.size; have := hbo.lt; omega
      have hs6 := Save.set W5 (w.heap.size + 1) 0 (.int .i64 ((k : Int) + 1))
      have hq6 := hfin.save hs6 (by omega) fun g hg => by have := hvn5 g hg; omega
      have hbo6 : Boxed (W5.setCell ⟨w.heap.size + 1, 0, none⟩ (.int .i64 ((k : Int) + 1))) (w.heap.size + 1) 3 (.int .i64 ((k + 1 : Nat) : Int)) := by rw [show ((k + 1 : Nat) : Int) = (k : Int) + 1 by omega]; exact Boxed.set _ hboW
      have hbq6 : Boxed (W5.setCell ⟨w.heap.size + 1, 0, none⟩ (.int .i64 ((k : Int) + 1))) w.heap.size 39 (.pointer (some ⟨p, 0, none⟩)) := blk_save hbqW hs6 (by omega)
      have hs7 := hs5.trans hs6 fun i hi e => by omega
      have hko7 := hko5.trans (KeepsOthers.setCell W5 ⟨w.heap.size + 1, 0, none⟩ (.int .i64 ((k : Int) + 1)))
      have hkp7 : KpR lo W (W5.setCell ⟨w.heap.size + 1, 0, none⟩ (.int .i64 ((k : Int) + 1))) := hkp.t (kpr_save ((hp5.mono fun k h => (show k = p ∨ k = w.heap.size + 1 from .inl h)).trans hs6 fun _ _ h => .inr h) fun a ha => by
        have := hlp a ha; rintro (h | h) <;> omega)
      obtain ⟨W2, hW2⟩ : ∃ W2, W2 = W5.setCell ⟨w.heap.size + 1, 0, none⟩ (.int .i64 ((k : Int) + 1)) := ⟨_, rfl⟩
      rw [← hW2] at hq6 hbo6 hbq6 hs7 hko7 hkp7 ⊢
      clear hW2 hcW hfW hs6 hko5 hs5 hp5 hboW hbqW hfin
      have hv6 : Heir w1 v (.slice ao5 zs.length c5) := fun g hg => .inr (hvn5 g hg)
      have hvn6 : ∀ g, (Value.slice ao5 zs.length c5).ownBlock = some g → g ≠ w.heap.size ∧ g ≠ w.heap.size + 1 ∧ ∀ a, lo = some a → a.block ≠ g := fun g hg => by
        have := hvn5 g hg
        exact ⟨by omega, by omega, fun a ha => by have := (hlp a ha).1; omega⟩
      clear hv' hvn hqW hbq hbo hsW hko hkp
      have c2 := hq6.c2
      have cq := hbq6.cell
      refine wpIn_region_free [6, 7, 8, 9, 10] (FillC w.heap.size p (.slice ao5 zs.length c5)) (by kernel_rfl) (by kernel_rfl) (by kernel_rfl) (fun ⟨_, _, h⟩ => h) ⟨cq, c2⟩ ?_
      refine wpFl_still (by rfl) (by rfl) (fun K hK => ?_)
      go_simp
      refine ⟨.pointer (some ⟨p, 0, none⟩), fun X hX => by rw [hX.q]; rfl, hK _ ?_⟩
      clear hK K
      refine wpFl_still (by rfl) (by rfl) (fun K hK => ?_)
      go_simp
      refine ⟨.pointer (some ⟨p, 0, none⟩), fun X hX => by rw [hX.q]; rfl, hK _ ?_⟩
      clear hK K
      iterate 2 (refine wpFl_still (by rfl) (by rfl) (fun K hK => ?_); go_simp; (refine ⟨_, fun _ _ => rfl, hK _ ?_⟩; clear hK K))
      refine wpFl_still (by rfl) (by rfl) (fun K hK => ?_)
      go_simp
      refine ⟨.slice ao5 zs.length c5, fun X hX => by rw [hX.l]; rfl, hK _ ?_⟩
      clear hK K
      repeat (first | refine wpFl_chain (by rfl) ?_ | (refine wpFl_still (by rfl) (by rfl) (fun K hK => ?_); go_simp; (refine ⟨_, fun _ _ => rfl, hK _ ?_⟩; clear hK K)))
      refine wpFl_nil ?_
      show wpTs _ _ _ _ 5 _ _ _
      refine wpTs_1 (i := 6) (rem1 := [7, 8, 9, 10]) (by kernel_rfl) (by rfl) (by rfl) (fun K hK => ?_)
      go_wp2_with fail
      have hb1 : Below W2.heap.size W2 ((W2.alloc (Obj.cells #[Value.int .i64 x] 3)).drew) := ((Below.refl W2.heap.size W2).alloc (Nat.le_refl _) _).trans ⟨rfl, rfl, rfl, Nat.le_refl _, fun _ _ => rfl⟩
      obtain ⟨Y1, hY1⟩ : ∃ Y1, Y1 = (W2.alloc (Obj.cells #[Value.int .i64 x] 3)).drew := ⟨_, rfl⟩
      have hko1 : KeepsOthers W2 Y1 := by rw [hY1]; exact (KeepsOthers.alloc _ _).trans (KeepsOthers.drew _)
      have hnews : ∀ (j : Nat) (u : Value), [Value.int .i64 x][j]? = some u → Y1.cell? ((⟨W2.heap.size, 0, none⟩ : Addr).add j) = some u := by rw [hY1]; exact cell_one_new _ _ _
      rw [← hY1] at hb1 ⊢
      clear hY1
      have hq1 := hq6.save (Save.of_below hb1 fun _ => False) id fun _ _ => id
      have hs1 : Save (fun k => k = p ∨ v.ownBlock = some k) W2 Y1 := Save.of_below hb1 _
      have hbq1 := hbq6.kept (below_grownQ hb1) (by simp)
      have hbo1 := hbo6.kept (below_grownQ hb1) (by simp)
      have hC1 : FillC w.heap.size p (.slice ao5 zs.length c5) Y1 := ⟨hbq1.cell, hq1.c2⟩
      refine hK _ _ hC1 ?_
      clear hK K
      refine wpTs_1 (i := 7) (rem1 := [8, 9, 10]) (by kernel_rfl) (by rfl) (by rfl) (fun K hK => ?_)
      have hrow1 := hq1.row
      have hszY : w.heap.size ≤ Y1.heap.size := Nat.le_trans hs7.size hb1.size
      refine wpList_append_own_at _ rfl _ _ 24 rfl base 3 i0 (.int .i64 0) 1 8 Try.underlying24 hi hz0 hz1 hz2 rfl (by decide) (.slice ao5 zs.length c5) zs.length (vi zs) rfl hrow1 ⟨W2.heap.size, 0, none⟩ 1 1 [Value.int .i64 x] rfl rfl hnews (by simp [Value.oneCell']) (by unfold maxLen; omega) (by omega) (Nat.le_trans hbw hszY) ?_
      intro v3 W3 hown3 hgrow3 _ hat3
      have hblk3 := blk_save hq1.blk (Save.of_grown hgrow3) (hq1.not_row hq1.row)
      have hbq3 := hbq1.kept hgrow3 (fun e => (hvn6 _ e.symm).1 rfl)
      have hbo3 := hbo1.kept hgrow3 (fun e => (hvn6 _ e.symm).2.1 rfl)
      have hko3 := own_others hrow1 hgrow3
      have hC3 : FillC w.heap.size p (.slice ao5 zs.length c5) W3 := ⟨hbq3.cell, blk_cell hblk3 2⟩
      refine hK _ _ hC3 ?_
      go_simp
      clear hK K
      refine wpTs_1 (i := 8) (rem1 := [9, 10]) (by kernel_rfl) (by rfl) (by rfl) (fun K hK => ?_)
      go_wp2_with fail
      refine hK _ _ hC3 ?_
      clear hK K
      refine wpTs_1 (i := 9) (rem1 := [10]) (by kernel_rfl) (by rfl) (by rfl) (fun K hK => ?_)
      go_wp2_with fail
      refine hK _ _ hC3 ?_
      clear hK K
      have hown3' : W3.ownsRow base 3 1 v3 (zs ++ [x]).length (vi (zs ++ [x])) := by rw [vi_append, List.length_append]; exact hown3
      obtain ⟨ao3, c3, rfl, _, _, _, _⟩ := vi_view hown3'
      have hc3 := hC3.l
      have hf3 := blk_frozen hblk3 2
      refine wpTs_last (i := 10) (rem1 := []) (by kernel_rfl) (by rfl) (by rfl) (by kernel_rfl) (fun K hK => ?_)
      go_wp2_with fail
      refine wpTs_0 ?_
      gi_wp2
      have hsA : Save (fun k => k = p ∨ v.ownBlock = some k) w Y1 := hs7.trans hs1 fun _ _ h => h
      have hsB : Save (fun k => k = p ∨ v.ownBlock = some k) w W3 := hsA.trans (Save.of_grown hgrow3) fun i hi e => .inr ((hv6 i e).resolve_right (by have := hsz1.out; omega))
      have hsC : Save (fun k => k = p ∨ v.ownBlock = some k ∨ (Value.slice ao5 zs.length c5).ownBlock = some k) W2 W3 := (hs1.mono fun _ h => h.imp id .inl).trans (Save.of_grown hgrow3) fun i hi e => .inr (.inr e)
      have hfin := qset hblk3 hown3' hq6.low
      simp only [List.length_append, List.length_cons, List.length_nil, Nat.zero_add] at hfin hat3
      have hsz2 := hsz1.out
      have hbol := hbo6.lt
      refine ⟨(((hko7.trans hko1).trans hko3).trans (KeepsOthers.setCell _ _ _)), hkp7.t (kpr_save (hsC.trans (Save.set W3 p 2 _) fun _ _ h => .inl h) fun a ha => ?_), ⟨.slice ao3 (zs.length + 1) c3, by rw [hFF.out]; exact hfin, fun g hg => ?_⟩, blk_save hbq3 (Save.set W3 p 2 _) (by omega), by rw [hFF.out]; exact blk_save hbo3 (Save.set W3 p 2 _) (by omega), hsB.trans (Save.set W3 p 2 _) fun _ _ h => .inl h⟩
      · rintro (h | h | h)
        · exact (hlp a ha).2.1 h
        · exact (hlp a ha).2.2 h
        · exact (hvn6 _ h).2.2 a ha rfl
      · rcases hat3 with e | e
        · exact hv6 g (e ▸ hg)
        · rw [e] at hg; cases hg
          have := hb1.size
          exact .inr (by omega)
    · have t0 : ((n : Int) == (cap : Int)) = false := beq_eq_false_iff_ne.2 (by omega)
      have HN := hid hn
      rw [hn] at c2 hra hpos hyl hac hF
      have HQ := hid hq'
      clear hn hq'
      gi_wp2
      refine wpIn_region_stage 11 (Drawn fun _ => W) (by kernel_rfl) (by kernel_rfl) (by kernel_rfl) (fun ⟨_, _, h⟩ => h) (Drawn.start _ _ rfl) ?_
      simp only [List.take_succ_cons, List.take_zero, List.drop_succ_cons, List.drop_zero]
      repeat (refine wpStg_quiet (by rfl) (by rfl) (fun K hK => ?_); go_simp; (refine hK _ ?_; clear hK K))
      refine wpStg_nil ?_
      rintro _ ⟨nq, rfl⟩
      obtain ⟨W2, hW2⟩ : ∃ W2, W2 = W.drewN nq := ⟨_, rfl⟩
      have hqW : QAt W2 base p cap pol (.slice ao ys.length c) ys d := by rw [hW2]; exact HQ.out.drewN nq
      have hbq : Boxed W2 w.heap.size 39 (.pointer (some ⟨p, 0, none⟩)) := by rw [hW2]; exact bq
      have hbo : Boxed W2 (w.heap.size + 1) 3 (.int .i64 (k : Int)) := by rw [hW2]; exact bo
      have hsW : Save (fun k => k = p ∨ v.ownBlock = some k) w W2 := by rw [hW2]; exact Save.drewN _ sv
      have hko : KeepsOthers W W2 := by rw [hW2]; exact ⟨Nat.le_refl _, fun _ _ h _ => h⟩
      have hkp : KpR lo W W2 := by rw [hW2]; exact ⟨Nat.le_refl _, fun _ _ _ h _ => h⟩
      have hFF := hid (show fillL cap xs 0 (pre ++ [x]) = (ys ++ [x], k) by rw [hF.out, if_neg hfull])
      have hlz : ys.length ≤ 15 := by have := HN.out; omega
      rw [← hW2]
      clear hW2 HQ HN hF c0 c2 cq hra hpos hac hyl t0 hfull
      go_wp2
      gi_wp2
      have c2 := hqW.c2
      have cq := hbq.cell
      refine wpIn_region_free [6, 7, 8, 9, 10] (FillC w.heap.size p (.slice ao ys.length c)) (by kernel_rfl) (by kernel_rfl) (by kernel_rfl) (fun ⟨_, _, h⟩ => h) ⟨cq, c2⟩ ?_
      refine wpFl_still (by rfl) (by rfl) (fun K hK => ?_)
      go_simp
      refine ⟨.pointer (some ⟨p, 0, none⟩), fun X hX => by rw [hX.q]; rfl, hK _ ?_⟩
      clear hK K
      refine wpFl_still (by rfl) (by rfl) (fun K hK => ?_)
      go_simp
      refine ⟨.pointer (some ⟨p, 0, none⟩), fun X hX => by rw [hX.q]; rfl, hK _ ?_⟩
      clear hK K
      iterate 2 (refine wpFl_still (by rfl) (by rfl) (fun K hK => ?_); go_simp; (refine ⟨_, fun _ _ => rfl, hK _ ?_⟩; clear hK K))
      refine wpFl_still (by rfl) (by rfl) (fun K hK => ?_)
      go_simp
      refine ⟨.slice ao ys.length c, fun X hX => by rw [hX.l]; rfl, hK _ ?_⟩
      clear hK K
      repeat (first | refine wpFl_chain (by rfl) ?_ | (refine wpFl_still (by rfl) (by rfl) (fun K hK => ?_); go_simp; (refine ⟨_, fun _ _ => rfl, hK _ ?_⟩; clear hK K)))
      refine wpFl_nil ?_
      show wpTs _ _ _ _ 5 _ _ _
      refine wpTs_1 (i := 6) (rem1 := [7, 8, 9, 10]) (by kernel_rfl) (by rfl) (by rfl) (fun K hK => ?_)
      go_wp2_with fail
      have hb1 : Below W2.heap.size W2 ((W2.alloc (Obj.cells #[Value.int .i64 x] 3)).drew) := ((Below.refl W2.heap.size W2).alloc (Nat.le_refl _) _).trans ⟨rfl, rfl, rfl, Nat.le_refl _, fun _ _ => rfl⟩
      obtain ⟨Y1, hY1⟩ : ∃ Y1, Y1 = (W2.alloc (Obj.cells #[Value.int .i64 x] 3)).drew := ⟨_, rfl⟩
      have hko1 : KeepsOthers W2 Y1 := by rw [hY1]; exact (KeepsOthers.alloc _ _).trans (KeepsOthers.drew _)
      have hnews : ∀ (j : Nat) (u : Value), [Value.int .i64 x][j]? = some u → Y1.cell? ((⟨W2.heap.size, 0, none⟩ : Addr).add j) = some u := by rw [hY1]; exact cell_one_new _ _ _
      rw [← hY1] at hb1 ⊢
      clear hY1
      have hq1 := hqW.save (Save.of_below hb1 fun _ => False) id fun _ _ => id
      have hs1 : Save (fun k => k = p ∨ v.ownBlock = some k) W2 Y1 := Save.of_below hb1 _
      have hbq1 := hbq.kept (below_grownQ hb1) (by simp)
      have hbo1 := hbo.kept (below_grownQ hb1) (by simp)
      have hC1 : FillC w.heap.size p (.slice ao ys.length c) Y1 := ⟨hbq1.cell, hq1.c2⟩
      refine hK _ _ hC1 ?_
      clear hK K
      refine wpTs_1 (i := 7) (rem1 := [8, 9, 10]) (by kernel_rfl) (by rfl) (by rfl) (fun K hK => ?_)
      have hrow1 := hq1.row
      have hszY : w.heap.size ≤ Y1.heap.size := Nat.le_trans hsW.size hb1.size
      refine wpList_append_own_at _ rfl _ _ 24 rfl base 3 i0 (.int .i64 0) 1 8 Try.underlying24 hi hz0 hz1 hz2 rfl (by decide) (.slice ao ys.length c) ys.length (vi ys) rfl hrow1 ⟨W2.heap.size, 0, none⟩ 1 1 [Value.int .i64 x] rfl rfl hnews (by simp [Value.oneCell']) (by unfold maxLen; omega) (by omega) (Nat.le_trans hbw hszY) ?_
      intro v3 W3 hown3 hgrow3 _ hat3
      have hblk3 := blk_save hq1.blk (Save.of_grown hgrow3) (hq1.not_row hq1.row)
      have hbq3 := hbq1.kept hgrow3 (fun e => (hvn _ e.symm).1 rfl)
      have hbo3 := hbo1.kept hgrow3 (fun e => (hvn _ e.symm).2.1 rfl)
      have hko3 := own_others hrow1 hgrow3
      have hC3 : FillC w.heap.size p (.slice ao ys.length c) W3 := ⟨hbq3.cell, blk_cell hblk3 2⟩
      refine hK _ _ hC3 ?_
      go_simp
      clear hK K
      refine wpTs_1 (i := 8) (rem1 := [9, 10]) (by kernel_rfl) (by rfl) (by rfl) (fun K hK => ?_)
      go_wp2_with fail
      refine hK _ _ hC3 ?_
      clear hK K
      refine wpTs_1 (i := 9) (rem1 := [10]) (by kernel_rfl) (by rfl) (by rfl) (fun K hK => ?_)
      go_wp2_with fail
      refine hK _ _ hC3 ?_
      clear hK K
      have hown3' : W3.ownsRow base 3 1 v3 (ys ++ [x]).length (vi (ys ++ [x])) := by rw [vi_append, List.length_append]; exact hown3
      obtain ⟨ao3, c3, rfl, _, _, _, _⟩ := vi_view hown3'
      have hc3 := hC3.l
      have hf3 := blk_frozen hblk3 2
      refine wpTs_last (i := 10) (rem1 := []) (by kernel_rfl) (by rfl) (by rfl) (by kernel_rfl) (fun K hK => ?_)
      go_wp2_with fail
      refine wpTs_0 ?_
      gi_wp2
      have hsA : Save (fun k => k = p ∨ v.ownBlock = some k) w Y1 := hsW.trans hs1 fun _ _ h => h
      have hsB : Save (fun k => k = p ∨ v.ownBlock = some k) w W3 := hsA.trans (Save.of_grown hgrow3) fun i hi e => .inr ((hv' i e).resolve_right (by have := hsz1.out; omega))
      have hsC : Save (fun k => k = p ∨ v.ownBlock = some k ∨ (Value.slice ao ys.length c).ownBlock = some k) W2 W3 := (hs1.mono fun _ h => h.imp id .inl).trans (Save.of_grown hgrow3) fun i hi e => .inr (.inr e)
      have hfin := qset hblk3 hown3' hqW.low
      simp only [List.length_append, List.length_cons, List.length_nil, Nat.zero_add] at hfin hat3
      have hsz2 := hsz1.out
      have hbol := hbo.lt
      refine ⟨(((hko.trans hko1).trans hko3).trans (KeepsOthers.setCell _ _ _)), hkp.t (kpr_save (hsC.trans (Save.set W3 p 2 _) fun _ _ h => .inl h) fun a ha => ?_), ⟨.slice ao3 (ys.length + 1) c3, by rw [hFF.out]; exact hfin, fun g hg => ?_⟩, blk_save hbq3 (Save.set W3 p 2 _) (by omega), by rw [hFF.out]; exact blk_save hbo3 (Save.set W3 p 2 _) (by omega), hsB.trans (Save.set W3 p 2 _) fun _ _ h => .inl h⟩
      · rintro (h | h | h)
        · exact (hlp a ha).2.1 h
        · exact (hlp a ha).2.2 h
        · exact (hvn _ h).2.2 a ha rfl
      · rcases hat3 with e | e
        · exact hv' g (e ▸ hg)
        · rw [e] at hg; cases hg
          have := hb1.size
          exact .inr (by omega)
  case done =>
    rintro D ys W hD rfl hI hK
    obtain ⟨⟨v', hq', hv'⟩, bq, bo, sv⟩ := hI
    have hkl := (fill_bounds hcap.1 hlen ys).2
    obtain ⟨⟨zs, k⟩, hyk⟩ : ∃ y, fillL cap xs 0 ys = y := ⟨_, rfl⟩
    rw [hyk] at hq' bo hkl
    simp only at hq' bo hkl
    have cq := bq.cell
    have co := bo.cell
    have HYK := hid hyk
    clear hyk
    have HD := hid (qdrop_any base p cap pol v' zs d k W hq' hd (by omega))
    gi_wp2_with (refine ⟨trivial, ?_⟩; gi_at_call 41; refine (callsIn_wide.2 HD.out).mono ?_; rintro e w2 ⟨⟨r, rfl⟩, hq2, hs2⟩; have co2 := Boxed.cell (blk_save (W' := w2) bo hs2 (by have := hsz1.out; omega)))
    have hDp : D ≠ p := fun e => by
      have h1 := hq'.blk
      rw [← e, hK] at h1; cases h1
    have hD2 : w2.heap[D]? = some (.deferred (some [])) := blk_save hK hs2 hDp
    have hs3 : Save (fun k => some D = some k) w2 (w2.putObj D (.deferred none)) := Save.of_grown (grownBy_putObj' w2 D _)
    have hsz2 := hsz1.out
    refine ⟨by simp, .inl ⟨_, _, rfl, run_takeDeferred hD2, ?_⟩⟩
    refine ⟨_, results_tmp rfl _ _ _, ?_⟩
    unfold FillPost
    rw [show fillL cap xs 0 ys = (zs, k) from HYK.out]
    refine ⟨rfl, v', hq2.save hs3 (fun e => hDp (Option.some.inj e)) fun g hg e => ?_, fun g hg => (hv' g hg).imp id fun h => by omega, (sv.trans hs2 fun _ _ h => .inl h).trans hs3 fun i hi e => ?_⟩
    · cases e
      rcases hq2.row.2 with ⟨hn, _⟩ | ⟨g', _, _, hn, _, hb, _⟩
      · rw [hn] at hg; cases hg
      · rw [hn] at hg; cases hg
        rw [hD2] at hb; cases hb
    · cases e; omega
  case stop =>
    rintro D c pre W _ _ h _
    exact h.elim
end Go.Proofs.Ytmkpimdbmjpelaa
