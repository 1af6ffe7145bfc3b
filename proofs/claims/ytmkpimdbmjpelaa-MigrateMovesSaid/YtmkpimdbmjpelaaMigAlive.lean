/-
  Layer 29: the example.
-/
import Derived.Test.YtmkpimdbmjpelaaMigFill
namespace Go.Proofs.Ytmkpimdbmjpelaa
open Go.RowKit Go.Shelf
attribute [local go_sem] stillAt
def exG (c : Int) (_i j : Nat) : Int := if j = 0 then c else 1
theorem exG_right {c : Int} (h : 1 ≤ c ∧ c ≤ 16) : RightS 1 (exG c) := ⟨by omega, fun i _ => rightB_is.2 ⟨h, by show (1 : Int) ≤ 1; decide, by show (1 : Int) ≤ 3; decide⟩⟩
theorem exG_sets (W : World) (c : Int) : Sets (W.alloc (Obj.cells #[.int .i64 c, .int .i64 1] 43)) (some ⟨W.heap.size, 0, none⟩) 1 (exG c) := fun i hi => by
  obtain rfl : i = 0 := by omega
  refine ⟨W.heap.size, 0, rfl, ?_, ?_⟩
  · rw [World.cell?_alloc_at _ _ _ _ rfl]; rfl
  · rw [World.cell?_alloc_at _ _ _ _ rfl]; rfl
def exM (i : Nat) : Int := if i = 0 then 1 else 0
set_option maxRecDepth 100000 in
set_option maxHeartbeats 2000000 in
theorem migAlive_any (w : World) : Calls Try.prog 16 #[] w fun e w' => e = .returned (.bool true) ∧ Below w.heap.size w w' := by
  have bA := (Below.refl w.heap.size w).alloc (Nat.le_refl _) (Obj.cells #[.int .i64 3, .int .i64 1] 43)
  have HBA := hid bA
  have hs := exG_sets w 3
  have HM := hid (make_good (some ⟨w.heap.size, 0, none⟩) 1 1 (exG 3) _ hs (exG_right (by decide)))
  clear bA hs
  go_enter Try.func16, Try.ntmps16
  go_wp2_with fail
  refine HM.out.mono ?_
  rintro e w1 ⟨P, v, rfl, own1, qs1, b1⟩
  obtain ⟨ao, ac, rfl, hac, hPR⟩ := prow_of_own own1
  obtain ⟨fb, fo, rfl, cF0⟩ := hPR.out 0 (by omega)
  have cF : w1.cell? ⟨fb, fo, none⟩ = some (.pointer (some ⟨P 0, 0, none⟩)) := cF0
  have HB1 := hid (HBA.out.trans (b1.mono HBA.out.size))
  have HQ1 := hid qs1
  have HO1 := hid own1
  clear HM b1 qs1 own1 hPR cF0
  have hq0 : QAt w1 (w.alloc (Obj.cells #[.int .i64 3, .int .i64 1] 43)).heap.size (P 0) ((3 : Nat) : Int) 1 (.slice none 0 0) [] 0 := HQ1.out.at_ 0 (by omega)
  have bB := (Below.refl w1.heap.size w1).trans (show Below w1.heap.size w1 w1.drew from ⟨rfl, rfl, rfl, Nat.le_refl _, fun _ _ => rfl⟩)
  have bB1 := bB.alloc (Nat.le_refl _) (Obj.cells #[.int .i64 1, .int .i64 2, .int .i64 3] 3)
  have bB2 := bB1.alloc bB1.size (Obj.cells #[.slice (some ⟨w1.heap.size, 0, none⟩) 3 3] 24)
  have hbx := Boxed.new (w1.drew.alloc (Obj.cells #[.int .i64 1, .int .i64 2, .int .i64 3] 3)) 24 (.slice (some ⟨w1.heap.size, 0, none⟩) 3 3)
  have e1 := World.ownsRow_lit (base := w1.heap.size) (e := 3) (size := 1) w1.drew #[.int .i64 1, .int .i64 2, .int .i64 3] 3 (Nat.le_refl _) (by unfold maxLen; omega) (by simp)
  have hmr : MOf (w1.drew.alloc (Obj.cells #[.int .i64 1, .int .i64 2, .int .i64 3] 3)) ⟨some ⟨w1.heap.size, 0, none⟩, 3, [1, 2, 3]⟩ := by
    refine ⟨?_, Nat.le_refl _, by show 3 ≤ maxLen; unfold maxLen; omega, fun e => by cases e⟩
    exact (row_of_own e1).congr fun i hi => by
      rcases i with _ | _ | _ | i
      all_goals first | rfl | (exfalso; have h9 : i + 1 + 1 + 1 < 3 := hi; omega)
  have HFI := hid (fillv_any _ (P 0) (w1.heap.size + 1) 3 1 ⟨some ⟨w1.heap.size, 0, none⟩, 3, [1, 2, 3]⟩ ((w1.drew.alloc (Obj.cells #[.int .i64 1, .int .i64 2, .int .i64 3] 3)).alloc (Obj.cells #[.slice (some ⟨w1.heap.size, 0, none⟩) 3 3] 24)) (hq0.below bB2) (by omega) (Nat.le_trans hq0.low (Nat.le_trans (Nat.le_of_lt hq0.lt) bB2.size)) (hmr.below ((Below.refl _ _).alloc (Nat.le_refl _) _)) (fun b o e _ => by
    have := hq0.lt
    simp only [Option.some.injEq, Addr.mk.injEq] at e
    omega) (by rw [World.size_alloc] at hbx; exact hbx) (by show (3 : Nat) ≤ 100; omega))
  have HBB1 := hid bB1
  have HBB2 := hid bB2
  have HQ0 := hid hq0
  clear bB bB1 bB2 hbx e1 hmr hq0
  go_wp2
  refine wp_region_chain [3, 4, 5] (fun X => X.cell? ⟨fb, fo, none⟩ = some (.pointer (some ⟨P 0, 0, none⟩))) (by kernel_rfl) (by kernel_rfl) (by exact cF) ?_
  repeat (first | refine wpFl_chain (by rfl) ?_ | (refine wpFl_still (by rfl) (by rfl) (fun K hK => ?_); go_simp; (refine ⟨_, fun _ _ => rfl, hK _ ?_⟩; clear hK K)))
  refine wpFl_still (by rfl) (by rfl) (fun K hK => ?_)
  go_simp
  refine ⟨.pointer (some ⟨P 0, 0, none⟩), fun X hX => ?_, hK _ ?_⟩
  · have cX : X.cell? ⟨fb, fo, none⟩ = some (.pointer (some ⟨P 0, 0, none⟩)) := hX
    go_simp
  clear hK K
  repeat refine wpFl_chain (by rfl) ?_
  refine wpFl_nil ?_
  have cF1 := (HBB1.out.cell (cell_lt cF)).trans cF
  have cF2 := (HBB2.out.cell (cell_lt cF)).trans cF
  refine wpTl_on (by rfl) (fun K hK => ?_)
  go_wp2_with fail
  refine hK _ _ cF1 ?_
  clear hK K
  refine wpTl_on (by rfl) (fun K hK => ?_)
  go_wp2_with fail
  refine (values_any (some ⟨w1.heap.size, 0, none⟩) 3 3 _).mono ?_
  rintro e X1 ⟨rfl, rfl⟩
  go_wp2_with fail
  refine hK _ _ cF2 ?_
  clear hK K
  refine wpTl_on (by rfl) (fun K hK => ?_)
  go_wp2_with fail
  refine HFI.out.mono ?_
  rintro e w5 ⟨rfl, u, hq5, hh5, hs5⟩
  have hblk := (HQ0.out.below HBB2.out).blk
  have hlow0 := HQ0.out.low
  have HOB := HO1.out.kept (below_grownQ HBB2.out) (by cases e : (Value.slice (some ⟨fb, fo, none⟩) 1 ac).ownBlock <;> simp)
  have HO5 := hid (own_save2 HOB hs5 fun gg hgg hk => by
    obtain ⟨cur, hc⟩ := own_typ HOB hgg
    rw [hk, hblk] at hc
    cases hc)
  have HQ5 := hid ((HQ1.out.below HBB2.out).turn (s := ⟨3, 1, u, [1, 2, 3], 0⟩) (k := 0) (by omega) (hs5.mono fun k hk => .inl hk) hq5 hh5)
  have HBX := HB1.out.trans (HBB2.out.mono HB1.out.size)
  have HB5 := hid (hs5.below HBX HBX.size fun k hk => by have := HBA.out.size; omega)
  have HP5 : Hid (PRow w5 (some ⟨fb, fo, none⟩) 1 P) := by
    obtain ⟨ao', ac', e, _, hp⟩ := prow_of_own HO5.out
    cases e
    exact hp.out
  have cF5 : w5.cell? ⟨fb, fo, none⟩ = some (.pointer (some ⟨P 0, 0, none⟩)) := by
    obtain ⟨b', o', e, c⟩ := HP5.out 0 (by omega)
    cases e
    exact c
  clear hq5 hh5 hs5 hblk HOB HBX HFI HQ0
  go_wp2_with fail
  refine hK _ _ cF5 ?_
  clear hK K
  refine wpTl_nil ?_
  have b6 := (Below.refl w5.heap.size w5).alloc (Nat.le_refl _) (Obj.cells #[.int .i64 2, .int .i64 1] 43)
  have HMV := hid (move_any (some ⟨fb, fo, none⟩) (some ⟨w5.heap.size, 0, none⟩) 1 ac 1 1 _ (exG 2) exM P _ (w5.alloc (Obj.cells #[.int .i64 2, .int .i64 1] 43)) (by omega) (fun i => by unfold exM; split <;> decide) (HP5.out.below b6) (HQ5.out.below b6) (fun i hi => by
    obtain rfl : i = 0 := by omega
    rw [putN_same]
    show (3 : Nat) ≤ 100
    omega) (exG_sets w5 2) (exG_right (by decide)))
  have HB6 := hid (HB5.out.trans (b6.mono HB5.out.size))
  clear b6
  go_wp2_with fail
  refine HMV.out.mono ?_
  rintro e w7 (⟨⟨i, k, j, h1, h2, _⟩, _⟩ | ⟨_, P7, v7, u7, q7, rfl, o7, qs7, hst7, d7, b7⟩)
  · omega
  obtain ⟨_, _, a3⟩ := hst7 0 (by omega)
  have a4 : (q7 0).xs = [2, 3] := a3.trans rfl
  have d8 : w7.ownsRow (w5.alloc (Obj.cells #[.int .i64 2, .int .i64 1] 43)).heap.size 58 2 u7 1 [.int .i64 0, .int .i64 1] := d7
  obtain ⟨db, dc, rfl⟩ : ∃ db dc, u7 = .slice (some ⟨db, 0, none⟩) 1 dc := by
    rcases d8.2 with ⟨_, h⟩ | ⟨gg, cap, cur, e, _⟩
    · cases h
    · exact ⟨gg, cap, e⟩
  have cd0 : w7.cell? ⟨db, 0, none⟩ = some (.int .i64 0) := d8.cellAt 0 (by omega)
  have cd1 : w7.cell? ⟨db, 1, none⟩ = some (.int .i64 1) := d8.cellAt 1 (by omega)
  obtain ⟨ao7, ac7, rfl, _, hp7⟩ := prow_of_own o7
  obtain ⟨b7', o7', rfl, c70⟩ := hp7.out 0 (by omega)
  have c7 : w7.cell? ⟨b7', o7', none⟩ = some (.pointer (some ⟨P7 0, 0, none⟩)) := c70
  have hq7 := qs7.at_ 0 (by omega)
  have HB7 := hid (HB6.out.trans (b7.mono HB6.out.size))
  have hlist := qlist_any _ (P7 0) _ _ _ _ _ w7 hq7 (by rw [a4]; decide)
  rw [a4] at hlist
  have HLI := hid hlist
  clear hst7 a3 a4 d7 d8 o7 hp7 c70 hq7 b7 hlist HMV qs7
  go_wp2_with fail
  refine HLI.out.mono ?_
  rintro e w8 ⟨u8, rfl, o8, b8⟩
  obtain ⟨ao8, ac8, rfl, _, _, hr8, _⟩ := vi_view o8
  have HB8 := hid (HB7.out.trans (b8.mono HB7.out.size))
  have cd0' := (b8.cell (cell_lt cd0)).trans cd0
  have cd1' := (b8.cell (cell_lt cd1)).trans cd1
  have b9 := (Below.refl w8.heap.size w8).alloc (Nat.le_refl _) (Obj.cells #[.int .i64 2, .int .i64 3] 3)
  have e9 := World.ownsRow_lit (base := w8.heap.size) (e := 3) (size := 1) w8 #[.int .i64 2, .int .i64 3] 2 (Nat.le_refl _) (by unfold maxLen; omega) (by simp)
  have hr9 : Row (w8.alloc (Obj.cells #[.int .i64 2, .int .i64 3] 3)) (some ⟨w8.heap.size, 0, none⟩) 2 (fun j => .int .i64 (([2, 3] : List Int).getD j 0)) := (row_of_own e9).congr fun i hi => by
    rcases i with _ | _ | i
    all_goals first | rfl | (exfalso; omega)
  have HEQ := hid (equalI_any ao8 (some ⟨w8.heap.size, 0, none⟩) 2 2 ac8 2 _ _ _ (hr8.below b9) hr9 (by omega))
  rw [eqL_all (fun _ _ => rfl)] at HEQ
  have HB9 := hid (HB8.out.trans (b9.mono HB8.out.size))
  have cd0'' := (b9.cell (cell_lt cd0')).trans cd0'
  have cd1'' := (b9.cell (cell_lt cd1')).trans cd1'
  clear o8 hr8 b8 b9 e9 hr9 HLI cd0 cd1 cd0' cd1' c7 cF5
  go_wp2_with fail
  refine HEQ.out.mono ?_
  rintro e w10 ⟨rfl, b10⟩
  have HB10 := hid (HB9.out.trans (b10.mono HB9.out.size))
  have cd0 := (b10.cell (cell_lt cd0'')).trans cd0''
  have cd1 := (b10.cell (cell_lt cd1'')).trans cd1''
  clear cd0'' cd1'' b10 HEQ
  go_wp2
  go_ret
  exact ⟨rfl, HB10.out⟩
end Go.Proofs.Ytmkpimdbmjpelaa
