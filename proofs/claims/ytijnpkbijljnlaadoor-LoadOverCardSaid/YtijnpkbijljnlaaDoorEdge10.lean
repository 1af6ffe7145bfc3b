/-
  May an edge be: the walk (that it ends is all that is asked).
-/
import Derived.Deep.CutBlock
import Derived.Deep.MidRow
import Derived.Test.YtijnpkbijljnlaaDoorRight
import Derived.Test.YtijnpkbijljnlaaDoorFree
namespace Go.Proofs.YtijnpkbijljnlaaDoor
open Go.RowKit Go.Shelf
attribute [local go_sem] stillAt
theorem below_setCells {n b : Nat} {w0 : World} (hn : n ≤ b) : ∀ (vs : List Value) (o : Nat) (X : World), Below n w0 X → Below n w0 (X.setCells b o vs)
  | [], _, _, h => h
  | v :: r, o, X, h => by
    rw [World.setCells]
    exact below_setCells hn r (o + 1) _ (h.setCell (p := ⟨b, o, none⟩) hn v)
theorem below_drew {n : Nat} {w X : World} (h : Below n w X) : Below n w X.drew := ⟨h.os, h.tape, h.output, h.size, h.block⟩
theorem blk_alloc10 {W : World} {b : Nat} {o : Obj} (h : W.heap[b]? = some o) (o' : Obj) : (W.alloc o').heap[b]? = some o := (Below.heap_alloc _ _ _ (Array.getElem?_eq_some_iff.1 h).1).trans h
/-- Two modes in boxes of their own. -/
structure ModesBox (W : World) (A B : List Value) (pa pb : Value) (X : World) : Prop where
  boxes : ∃ ba bb, pa = .pointer (some ⟨ba, 0, none⟩) ∧ pb = .pointer (some ⟨bb, 0, none⟩) ∧ X.heap[ba]? = some (Obj.cells A.toArray 55) ∧ X.heap[bb]? = some (Obj.cells B.toArray 55)
  below : Below W.heap.size W X
set_option maxRecDepth 100000 in
set_option maxHeartbeats 4000000 in
theorem edge10_any (x : Img) (g : Nat → Nat → Int) (M : Nat → ModeR) (q : Nat → Nat → Nat → Int) (h : Nat → Nat → Int) (i : Nat) (w : World) (hx : ImgAt w x g M q h) (hi : i < x.en) :
    Calls Tryd.prog 41 #[iv x, .int .i64 i] w fun e w' => ∃ rr : Bool, e = .returned (.bool rr) ∧ Below w.heap.size w w' := by
  have hmn := hx.mn
  have hen := hx.en
  have HE := hid hx.edges
  have HM := hid hx.modes
  have HTB := hid hx.tb
  clear hx
  obtain ⟨r, ao, n, cap, mo, mn, mc, eo, en, ec⟩ := x
  unfold iv
  dsimp only at hmn hen HE HM HTB hi ⊢
  unfold maxLen at hmn hen
  obtain ⟨b, o, rfl, hc⟩ := HE.out i hi
  obtain ⟨C, hC⟩ : ∃ C : List Value, C = (List.range 23).map fun j => .int .i64 (h i j) := ⟨_, rfl⟩
  have hCl : C.length = 23 := by rw [hC]; simp
  have hCj : ∀ j, j < 23 → C[j]? = some (.int .i64 (h i j)) := fun j hj => by rw [hC]; simp [hj]
  have hC1 : C.toArray.all (·.oneCell') = true := all_oneCell_toArray fun v hv => by
    rw [hC] at hv
    obtain ⟨j, _, rfl⟩ := List.mem_map.1 hv
    rfl
  clear hC
  have hb1 : Below w.heap.size w (w.alloc (Obj.cells #[.int .i64 r, .slice ao n cap, .slice mo mn mc, .slice (some ⟨b, o, none⟩) en ec] 26)) := (Below.refl _ _).alloc (Nat.le_refl _) _
  have bI := heap_alloc_new w (Obj.cells #[.int .i64 r, .slice ao n cap, .slice mo mn mc, .slice (some ⟨b, o, none⟩) en ec] 26)
  have hr1 : (w.alloc (Obj.cells #[.int .i64 r, .slice ao n cap, .slice mo mn mc, .slice (some ⟨b, o, none⟩) en ec] 26)).rangeAt b (o + i * 23) C := fun j v hv => by
    have hj : j < 23 := by rw [← hCl]; exact (List.getElem?_eq_some_iff.1 hv).1
    rw [hCj j hj] at hv
    cases hv
    exact kept (hc j hj) hb1
  have hinf : (Tryd.prog.info? 86).map (·.size) = some C.length := by rw [hCl]; kernel_rfl
  have hld := run_loadAt_mid (P := Tryd.prog) (w.alloc (Obj.cells #[.int .i64 r, .slice ao n cap, .slice mo mn mc, .slice (some ⟨b, o, none⟩) en ec] 26)) b (o + i * 23) 86 C _ hr1 Tryd.underlying86 rfl hinf
  have bZ : ((w.alloc (Obj.cells #[.int .i64 r, .slice ao n cap, .slice mo mn mc, .slice (some ⟨b, o, none⟩) en ec] 26)).alloc (Obj.cells #[.int .i64 0, .int .i64 0, .int .i64 0, .int .i64 0, .int .i64 0, .int .i64 0, .int .i64 0, .int .i64 0, .int .i64 0, .int .i64 0, .int .i64 0, .int .i64 0, .int .i64 0, .int .i64 0, .int .i64 0, .int .i64 0, .int .i64 0, .int .i64 0, .int .i64 0, .int .i64 0, .int .i64 0, .int .i64 0, .int .i64 0] 86)).heap[w.heap.size + 1]? = some (Obj.cells #[.int .i64 0, .int .i64 0, .int .i64 0, .int .i64 0, .int .i64 0, .int .i64 0, .int .i64 0, .int .i64 0, .int .i64 0, .int .i64 0, .int .i64 0, .int .i64 0, .int .i64 0, .int .i64 0, .int .i64 0, .int .i64 0, .int .i64 0, .int .i64 0, .int .i64 0, .int .i64 0, .int .i64 0, .int .i64 0, .int .i64 0] 86) := by have := heap_alloc_new (w.alloc (Obj.cells #[.int .i64 r, .slice ao n cap, .slice mo mn mc, .slice (some ⟨b, o, none⟩) en ec] 26)) (Obj.cells #[.int .i64 0, .int .i64 0, .int .i64 0, .int .i64 0, .int .i64 0, .int .i64 0, .int .i64 0, .int .i64 0, .int .i64 0, .int .i64 0, .int .i64 0, .int .i64 0, .int .i64 0, .int .i64 0, .int .i64 0, .int .i64 0, .int .i64 0, .int .i64 0, .int .i64 0, .int .i64 0, .int .i64 0, .int .i64 0, .int .i64 0] 86); rwa [World.size_alloc] at this
  have hth : ((w.alloc (Obj.cells #[.int .i64 r, .slice ao n cap, .slice mo mn mc, .slice (some ⟨b, o, none⟩) en ec] 26)).alloc (Obj.cells #[.int .i64 0, .int .i64 0, .int .i64 0, .int .i64 0, .int .i64 0, .int .i64 0, .int .i64 0, .int .i64 0, .int .i64 0, .int .i64 0, .int .i64 0, .int .i64 0, .int .i64 0, .int .i64 0, .int .i64 0, .int .i64 0, .int .i64 0, .int .i64 0, .int .i64 0, .int .i64 0, .int .i64 0, .int .i64 0, .int .i64 0] 86)).there (w.heap.size + 1) 0 C.toArray.size := fun j hj => by
    have hj : j < 23 := by rw [← hCl]; simpa using hj
    refine ⟨?_, blk_frozen bZ _⟩
    rw [blk_cell bZ]
    simp only [Nat.zero_add]
    rw [Array.getElem?_eq_getElem (by simpa using hj)]
    rfl
  have hst := run_storeAt_mid (P := Tryd.prog) ((w.alloc (Obj.cells #[.int .i64 r, .slice ao n cap, .slice mo mn mc, .slice (some ⟨b, o, none⟩) en ec] 26)).alloc (Obj.cells #[.int .i64 0, .int .i64 0, .int .i64 0, .int .i64 0, .int .i64 0, .int .i64 0, .int .i64 0, .int .i64 0, .int .i64 0, .int .i64 0, .int .i64 0, .int .i64 0, .int .i64 0, .int .i64 0, .int .i64 0, .int .i64 0, .int .i64 0, .int .i64 0, .int .i64 0, .int .i64 0, .int .i64 0, .int .i64 0, .int .i64 0] 86)) (w.heap.size + 1) 0 86 C.toArray hth (by simpa using hinf) hC1
  have i0' : (0 : Int) ≤ (i : Int) := by omega
  have i1 : (i : Int) < (en : Int) := by omega
  have hw1 : IntKind.i64.wrap ((mn : Int) - 1) = (mn : Int) - 1 := IntWalk.i64_in _ (by omega)
  go_enter Tryd.func41, Tryd.ntmps41
  go_upto_region 1 with fail
  refine wp_region_lit ?_
  refine wpList_plain rfl fun K hK => ?_
  go_simp
  refine hK _ _ ?_
  clear hK K
  refine wpList_plain rfl fun K hK => ?_
  go_simp
  refine hK _ _ ?_
  clear hK K
  refine wpList_plain rfl fun K hK => ?_
  go_simp
  refine hK _ _ ?_
  clear hK K
  refine wpList_plain rfl fun K hK => ?_
  go_simp
  refine hK _ _ ?_
  clear hK K
  refine wpList_load_mid rfl 86 _ rfl b (o + i * 23) rfl C _ hr1 Tryd.underlying86 rfl hinf ?_
  refine wpList_plain rfl fun K hK => ?_
  go_simp
  refine hK _ _ ?_
  clear hK K
  refine wpList_store_mid rfl 86 _ _ rfl (w.heap.size + 1) 0 C.toArray rfl rfl hth (by simpa using hinf) hC1 ?_
  have bI2 : (((w.alloc (Obj.cells #[.int .i64 r, .slice ao n cap, .slice mo mn mc, .slice (some ⟨b, o, none⟩) en ec] 26)).alloc (Obj.cells #[.int .i64 0, .int .i64 0, .int .i64 0, .int .i64 0, .int .i64 0, .int .i64 0, .int .i64 0, .int .i64 0, .int .i64 0, .int .i64 0, .int .i64 0, .int .i64 0, .int .i64 0, .int .i64 0, .int .i64 0, .int .i64 0, .int .i64 0, .int .i64 0, .int .i64 0, .int .i64 0, .int .i64 0, .int .i64 0, .int .i64 0] 86)).setCells (w.heap.size + 1) 0 C).heap[w.heap.size]? = some (Obj.cells #[.int .i64 r, .slice ao n cap, .slice mo mn mc, .slice (some ⟨b, o, none⟩) en ec] 26) := by
    exact ((below_setCells (Nat.le_refl _) C 0 _ (Below.refl (w.heap.size + 1) _)).block w.heap.size (by omega)).trans ((Below.heap_alloc _ _ _ (by simp)).trans bI)
  have hE : ∀ j, j < 23 → (((w.alloc (Obj.cells #[.int .i64 r, .slice ao n cap, .slice mo mn mc, .slice (some ⟨b, o, none⟩) en ec] 26)).alloc (Obj.cells #[.int .i64 0, .int .i64 0, .int .i64 0, .int .i64 0, .int .i64 0, .int .i64 0, .int .i64 0, .int .i64 0, .int .i64 0, .int .i64 0, .int .i64 0, .int .i64 0, .int .i64 0, .int .i64 0, .int .i64 0, .int .i64 0, .int .i64 0, .int .i64 0, .int .i64 0, .int .i64 0, .int .i64 0, .int .i64 0, .int .i64 0] 86)).setCells (w.heap.size + 1) 0 C).cell? ⟨w.heap.size + 1, j, none⟩ = some (.int .i64 (h i j)) := fun j hj => by
    have := World.rangeAt_setCells_same ((w.alloc (Obj.cells #[.int .i64 r, .slice ao n cap, .slice mo mn mc, .slice (some ⟨b, o, none⟩) en ec] 26)).alloc (Obj.cells #[.int .i64 0, .int .i64 0, .int .i64 0, .int .i64 0, .int .i64 0, .int .i64 0, .int .i64 0, .int .i64 0, .int .i64 0, .int .i64 0, .int .i64 0, .int .i64 0, .int .i64 0, .int .i64 0, .int .i64 0, .int .i64 0, .int .i64 0, .int .i64 0, .int .i64 0, .int .i64 0, .int .i64 0, .int .i64 0, .int .i64 0] 86)) (w.heap.size + 1) 0 C (by simpa using hth) j _ (hCj j hj)
    rwa [Nat.zero_add] at this
  have hb2 : Below w.heap.size w (((w.alloc (Obj.cells #[.int .i64 r, .slice ao n cap, .slice mo mn mc, .slice (some ⟨b, o, none⟩) en ec] 26)).alloc (Obj.cells #[.int .i64 0, .int .i64 0, .int .i64 0, .int .i64 0, .int .i64 0, .int .i64 0, .int .i64 0, .int .i64 0, .int .i64 0, .int .i64 0, .int .i64 0, .int .i64 0, .int .i64 0, .int .i64 0, .int .i64 0, .int .i64 0, .int .i64 0, .int .i64 0, .int .i64 0, .int .i64 0, .int .i64 0, .int .i64 0, .int .i64 0] 86)).setCells (w.heap.size + 1) 0 C) := by
    exact below_setCells (by omega) C 0 _ (hb1.alloc (by simp) _)
  obtain ⟨W2, hW2⟩ : ∃ X, X = ((w.alloc (Obj.cells #[.int .i64 r, .slice ao n cap, .slice mo mn mc, .slice (some ⟨b, o, none⟩) en ec] 26)).alloc (Obj.cells #[.int .i64 0, .int .i64 0, .int .i64 0, .int .i64 0, .int .i64 0, .int .i64 0, .int .i64 0, .int .i64 0, .int .i64 0, .int .i64 0, .int .i64 0, .int .i64 0, .int .i64 0, .int .i64 0, .int .i64 0, .int .i64 0, .int .i64 0, .int .i64 0, .int .i64 0, .int .i64 0, .int .i64 0, .int .i64 0, .int .i64 0] 86)).setCells (w.heap.size + 1) 0 C := ⟨_, rfl⟩
  show Exit.then _ _ _ _ _
  rw [← hW2] at bI2 hE hb2 ⊢
  clear hW2 hst hth bZ hld hinf hr1 bI hb1 hC1 hCj hCl hc
  go_simp
  have c2 := blk_cell bI2 2
  have c3 := blk_cell bI2 3
  have e0 := hE 0 (by decide)
  have e1 := hE 1 (by decide)
  have e2 := hE 2 (by decide)
  cases a1 : inR (h i 0) 0 ((mn : Int) - 1)
  case false =>
    go_wp2_with (go_at_call 38; refine (in10_any _ _ _ _).mono ?_; rintro e w' ⟨rfl, rfl⟩)
    go_ret
    exact ⟨false, rfl, hb2⟩
  cases a2 : inR (h i 1) 0 ((mn : Int) - 1)
  case false =>
    go_wp2_with (go_at_call 38; refine (in10_any _ _ _ _).mono ?_; rintro e w' ⟨rfl, rfl⟩)
    go_ret
    exact ⟨false, rfl, hb2⟩
  cases a3 : (h i 0 == h i 1)
  case true =>
    go_wp2_with (go_at_call 38; refine (in10_any _ _ _ _).mono ?_; rintro e w' ⟨rfl, rfl⟩)
    go_ret
    exact ⟨false, rfl, hb2⟩
  cases a4 : inR (h i 2) 1 3
  case false =>
    go_wp2_with (go_at_call 38; refine (in10_any _ _ _ _).mono ?_; rintro e w' ⟨rfl, rfl⟩)
    go_ret
    exact ⟨false, rfl, hb2⟩
  have y1 := inR_yes a1
  have y2 := inR_yes a2
  go_wp2_with (go_at_call 38; refine (in10_any _ _ _ _).mono ?_; rintro e w' ⟨rfl, rfl⟩)
  have HE2 := hid (FlatAt.below HE.out hb2)
  have HM2 := hid (ModesAt.below HM.out hb2)
  have HY := hid (show (0 ≤ h i 0 ∧ h i 0 ≤ (mn : Int) - 1) ∧ 0 ≤ h i 1 ∧ h i 1 ≤ (mn : Int) - 1 from ⟨y1, y2⟩)
  have HI2 := hid bI2
  have HEc := hid hE
  have HB2 := hid hb2
  clear HE HM y1 y2 a1 a2 a3 a4 c2 c3 e0 e1 e2 bI2 hE hb2
  go_loopw [6] (fun k_ wr => ∃ k : Nat, k ≤ i ∧ k_ = .int .i64 k ∧ Below W2.heap.size W2 wr) (fun k_ _ => i - (intOf k_).toNat)
  case atStart => exact ⟨0, by omega, rfl, Below.refl _ _⟩
  case round =>
    obtain ⟨k, hk, rfl, hbr⟩ := hrel
    have hIr := (hbr.block _ (Array.getElem?_eq_some_iff.1 HI2.out).1).trans HI2.out
    by_cases hlt : k < i
    · have t0 : decide ((k : Int) < (i : Int)) = true := by simp; omega
      have c3 := blk_cell hIr 3
      have e0 := kept (HEc.out 0 (by decide)) hbr
      have e1 := kept (HEc.out 1 (by decide)) hbr
      obtain ⟨b', o', eb, hck⟩ := (FlatAt.below HE2.out hbr) k (by omega)
      cases eb
      have f0 := hck 0 (by decide)
      have f1 := hck 1 (by decide)
      rw [Nat.add_zero] at f0
      clear hck
      have j0 : (0 : Int) ≤ (k : Int) := by omega
      have j1 : (k : Int) < (en : Int) := by omega
      generalize h k 0 = u at f0
      generalize h k 1 = v at f1
      have hdr : ∀ X, Below wr.heap.size wr X → Below w.heap.size w X := fun X hX => HB2.out.trans ((hbr.trans (hX.mono hbr.size)).mono HB2.out.size)
      cases s0 : (u == h i 0)
      · go_wp2
        go_quiet (fail)
        go_wp2
        go_roundw
        case rel => exact ⟨k + 1, by omega, by go_num, hbr.trans ⟨rfl, rfl, rfl, Nat.le_refl _, fun _ _ => rfl⟩⟩
        case measure => simp [intOf]; omega
      · cases s1 : (v == h i 1)
        · go_wp2
          go_quiet (fail)
          go_wp2
          go_roundw
          case rel => exact ⟨k + 1, by omega, by go_num, hbr.trans ⟨rfl, rfl, rfl, Nat.le_refl _, fun _ _ => rfl⟩⟩
          case measure => simp [intOf]; omega
        · go_wp2
          go_quiet (fail)
          go_wp2
          go_ret
          exact ⟨false, rfl, hdr _ ⟨rfl, rfl, rfl, Nat.le_refl _, fun _ _ => rfl⟩⟩
    · obtain rfl : k = i := by omega
      have t0 : decide ((k : Int) < (k : Int)) = false := by simp
      go_wp2
      have d2 := blk_cell hIr 2
      have e0 := kept (HEc.out 0 (by decide)) hbr
      have e1 := kept (HEc.out 1 (by decide)) hbr
      obtain ⟨na, hna⟩ : ∃ n : Nat, h k 0 = n := ⟨(h k 0).toNat, by have := HY.out; omega⟩
      obtain ⟨nb, hnb⟩ : ∃ n : Nat, h k 1 = n := ⟨(h k 1).toNat, by have := HY.out; omega⟩
      rw [hna] at e0
      rw [hnb] at e1
      have la : na < mn := by have := HY.out; omega
      have lb : nb < mn := by have := HY.out; omega
      obtain ⟨bm, om, rfl, ca0, ca1⟩ := (HM2.out.below hbr) na la
      obtain ⟨bm', om', eb, cb0, cb1⟩ := (HM2.out.below hbr) nb lb
      cases eb
      have HTa := hid (HTB.out na la)
      have HTb := hid (HTB.out nb lb)
      generalize M na = A at ca0 ca1 HTa
      generalize M nb = B at cb0 cb1 HTb
      obtain ⟨ta, aqo, aqn, aqc⟩ := A
      obtain ⟨tb, bqo, bqn, bqc⟩ := B
      dsimp only at ca0 ca1 cb0 cb1 HTa HTb
      have j0 : (0 : Int) ≤ (na : Int) := by omega
      have j1 : (na : Int) < (mn : Int) := by omega
      have l0 : (0 : Int) ≤ (nb : Int) := by omega
      have l1 : (nb : Int) < (mn : Int) := by omega
      clear hna hnb la lb HM2 HE2 HTB
      go_cut [7, 8] from 75 to 86 (fun pa_ pb_ wx => ModesBox wr [.int .u32 ta, .slice aqo aqn aqc] [.int .u32 tb, .slice bqo bqn bqc] pa_ pb_ wx)
      case first =>
        refine wp_region_free [12, 13, 14, 15] (fun X => Below wr.heap.size wr X) (by kernel_rfl) (by kernel_rfl) (by exact ⟨rfl, rfl, rfl, Nat.le_refl _, fun _ _ => rfl⟩) ?_
        refine wpFl_still (by rfl) (by rfl) (fun K hK => ?_)
        go_simp
        refine ⟨_, fun _ _ => rfl, hK _ ?_⟩
        clear hK K
        refine wpFl_still (by rfl) (by rfl) (fun K hK => ?_)
        go_simp
        refine ⟨.slice (some ⟨bm, om, none⟩) mn mc, fun X hX => ?_, hK _ ?_⟩
        · have z0 := kept d2 hX
          go_simp
        clear hK K
        refine wpFl_still (by rfl) (by rfl) (fun K hK => ?_)
        go_simp
        refine ⟨_, fun _ _ => rfl, hK _ ?_⟩
        clear hK K
        refine wpFl_still (by rfl) (by rfl) (fun K hK => ?_)
        go_simp
        refine ⟨.int .i64 na, fun X hX => ?_, hK _ ?_⟩
        · have z0 := kept e0 hX
          go_simp
        clear hK K
        refine wpFl_still (by rfl) (by rfl) (fun K hK => ?_)
        go_simp
        refine ⟨_, fun _ _ => rfl, hK _ ?_⟩
        clear hK K
        refine wpFl_still (by rfl) (by rfl) (fun K hK => ?_)
        go_simp
        refine ⟨.agg #[.int .u32 ta, .slice aqo aqn aqc], fun X hX => ?_, hK _ ?_⟩
        · have z0 := kept ca0 hX
          have z1 := kept ca1 hX
          go_simp
        clear hK K
        refine wpFl_still (by rfl) (by rfl) (fun K hK => ?_)
        go_simp
        refine ⟨_, fun _ _ => rfl, hK _ ?_⟩
        clear hK K
        refine wpFl_still (by rfl) (by rfl) (fun K hK => ?_)
        go_simp
        refine ⟨.slice (some ⟨bm, om, none⟩) mn mc, fun X hX => ?_, hK _ ?_⟩
        · have z0 := kept d2 hX
          go_simp
        clear hK K
        refine wpFl_still (by rfl) (by rfl) (fun K hK => ?_)
        go_simp
        refine ⟨_, fun _ _ => rfl, hK _ ?_⟩
        clear hK K
        refine wpFl_still (by rfl) (by rfl) (fun K hK => ?_)
        go_simp
        refine ⟨.int .i64 nb, fun X hX => ?_, hK _ ?_⟩
        · have z0 := kept e1 hX
          go_simp
        clear hK K
        refine wpFl_still (by rfl) (by rfl) (fun K hK => ?_)
        go_simp
        refine ⟨_, fun _ _ => rfl, hK _ ?_⟩
        clear hK K
        refine wpFl_still (by rfl) (by rfl) (fun K hK => ?_)
        go_simp
        refine ⟨.agg #[.int .u32 tb, .slice bqo bqn bqc], fun X hX => ?_, hK _ ?_⟩
        · have z0 := kept cb0 hX
          have z1 := kept cb1 hX
          go_simp
        clear hK K
        repeat (refine wpFl_chain (by rfl) ?_)
        refine wpFl_nil ?_
        refine wpTs_2 (i := 12) (j := 13) (rem1 := [13, 14, 15]) (rem2 := [12, 14, 15]) (by kernel_rfl) (by rfl) (by rfl) (by rfl) (by rfl) (fun K hK => ?_) (fun K hK => ?_)
        · go_wp2_with fail
          refine hK _ _ (below_drew ((Below.refl _ _).alloc (Nat.le_refl _) _)) ?_
          clear hK K
          refine wpTs_1 (i := 13) (rem1 := [14, 15]) (by kernel_rfl) (by rfl) (by rfl) (fun K hK => ?_)
          go_wp2_with fail
          refine hK _ _ (below_drew (((Below.refl _ _).alloc (Nat.le_refl _) _).alloc (by simp) _)) ?_
          clear hK K
          have g0 := blk_alloc10 (heap_alloc_new wr (Obj.cells #[.int .u32 0, .slice none 0 0] 55)) (Obj.cells #[.int .u32 0, .slice none 0 0] 55)
          have g1 := heap_alloc_new (wr.alloc (Obj.cells #[.int .u32 0, .slice none 0 0] 55)) (Obj.cells #[.int .u32 0, .slice none 0 0] 55)
          rw [World.size_alloc] at g1
          have c00 := blk_cell g0 0
          have c01 := blk_cell g0 1
          have f00 := blk_frozen g0 0
          have f01 := blk_frozen g0 1
          have c10 := blk_cell g1 0
          have c11 := blk_cell g1 1
          have f10 := blk_frozen g1 0
          have f11 := blk_frozen g1 1
          refine wpTs_1 (i := 14) (rem1 := [15]) (by kernel_rfl) (by rfl) (by rfl) (fun K hK => ?_)
          go_wp2_with fail
          refine hK _ _ (below_drew (((Below.refl _ _).alloc (Nat.le_refl _) _).alloc (by simp) _)) ?_
          clear hK K
          clear g0 g1 c00 c01 f00 f01 c10 c11 f10 f11
          have g0 := blk_alloc10 (heap_alloc_new wr (Obj.cells #[.int .u32 ta, .slice aqo aqn aqc] 55)) (Obj.cells #[.int .u32 0, .slice none 0 0] 55)
          have g1 := heap_alloc_new (wr.alloc (Obj.cells #[.int .u32 ta, .slice aqo aqn aqc] 55)) (Obj.cells #[.int .u32 0, .slice none 0 0] 55)
          rw [World.size_alloc] at g1
          have c00 := blk_cell g0 0
          have c01 := blk_cell g0 1
          have f00 := blk_frozen g0 0
          have f01 := blk_frozen g0 1
          have c10 := blk_cell g1 0
          have c11 := blk_cell g1 1
          have f10 := blk_frozen g1 0
          have f11 := blk_frozen g1 1
          refine wpTs_1 (i := 15) (rem1 := []) (by kernel_rfl) (by rfl) (by rfl) (fun K hK => ?_)
          go_wp2_with fail
          refine hK _ _ (below_drew (((Below.refl _ _).alloc (Nat.le_refl _) _).alloc (by simp) _)) ?_
          clear hK K
          clear g0 g1 c00 c01 f00 f01 c10 c11 f10 f11
          have g0 := blk_alloc10 (heap_alloc_new wr (Obj.cells #[.int .u32 ta, .slice aqo aqn aqc] 55)) (Obj.cells #[.int .u32 tb, .slice bqo bqn bqc] 55)
          have g1 := heap_alloc_new (wr.alloc (Obj.cells #[.int .u32 ta, .slice aqo aqn aqc] 55)) (Obj.cells #[.int .u32 tb, .slice bqo bqn bqc] 55)
          rw [World.size_alloc] at g1
          have hbX := below_drew (((Below.refl wr.heap.size wr).alloc (Nat.le_refl _) (Obj.cells #[.int .u32 ta, .slice aqo aqn aqc] 55)).alloc (by simp) (Obj.cells #[.int .u32 tb, .slice bqo bqn bqc] 55))
          refine wpTs_0 ?_
          go_wp2
          go_meet
          case rel => exact ⟨⟨_, _, rfl, rfl, g0, g1⟩, hbX⟩
        · go_wp2_with fail
          refine hK _ _ (below_drew ((Below.refl _ _).alloc (Nat.le_refl _) _)) ?_
          clear hK K
          refine wpTs_1 (i := 12) (rem1 := [14, 15]) (by kernel_rfl) (by rfl) (by rfl) (fun K hK => ?_)
          go_wp2_with fail
          refine hK _ _ (below_drew (((Below.refl _ _).alloc (Nat.le_refl _) _).alloc (by simp) _)) ?_
          clear hK K
          have g0 := blk_alloc10 (heap_alloc_new wr (Obj.cells #[.int .u32 0, .slice none 0 0] 55)) (Obj.cells #[.int .u32 0, .slice none 0 0] 55)
          have g1 := heap_alloc_new (wr.alloc (Obj.cells #[.int .u32 0, .slice none 0 0] 55)) (Obj.cells #[.int .u32 0, .slice none 0 0] 55)
          rw [World.size_alloc] at g1
          have c00 := blk_cell g0 0
          have c01 := blk_cell g0 1
          have f00 := blk_frozen g0 0
          have f01 := blk_frozen g0 1
          have c10 := blk_cell g1 0
          have c11 := blk_cell g1 1
          have f10 := blk_frozen g1 0
          have f11 := blk_frozen g1 1
          refine wpTs_1 (i := 14) (rem1 := [15]) (by kernel_rfl) (by rfl) (by rfl) (fun K hK => ?_)
          go_wp2_with fail
          refine hK _ _ (below_drew (((Below.refl _ _).alloc (Nat.le_refl _) _).alloc (by simp) _)) ?_
          clear hK K
          clear g0 g1 c00 c01 f00 f01 c10 c11 f10 f11
          have g0 := blk_alloc10 (heap_alloc_new wr (Obj.cells #[.int .u32 0, .slice none 0 0] 55)) (Obj.cells #[.int .u32 ta, .slice aqo aqn aqc] 55)
          have g1 := heap_alloc_new (wr.alloc (Obj.cells #[.int .u32 0, .slice none 0 0] 55)) (Obj.cells #[.int .u32 ta, .slice aqo aqn aqc] 55)
          rw [World.size_alloc] at g1
          have c00 := blk_cell g0 0
          have c01 := blk_cell g0 1
          have f00 := blk_frozen g0 0
          have f01 := blk_frozen g0 1
          have c10 := blk_cell g1 0
          have c11 := blk_cell g1 1
          have f10 := blk_frozen g1 0
          have f11 := blk_frozen g1 1
          refine wpTs_1 (i := 15) (rem1 := []) (by kernel_rfl) (by rfl) (by rfl) (fun K hK => ?_)
          go_wp2_with fail
          refine hK _ _ (below_drew (((Below.refl _ _).alloc (Nat.le_refl _) _).alloc (by simp) _)) ?_
          clear hK K
          clear g0 g1 c00 c01 f00 f01 c10 c11 f10 f11
          have g0 := blk_alloc10 (heap_alloc_new wr (Obj.cells #[.int .u32 tb, .slice bqo bqn bqc] 55)) (Obj.cells #[.int .u32 ta, .slice aqo aqn aqc] 55)
          have g1 := heap_alloc_new (wr.alloc (Obj.cells #[.int .u32 tb, .slice bqo bqn bqc] 55)) (Obj.cells #[.int .u32 ta, .slice aqo aqn aqc] 55)
          rw [World.size_alloc] at g1
          have hbX := below_drew (((Below.refl wr.heap.size wr).alloc (Nat.le_refl _) (Obj.cells #[.int .u32 tb, .slice bqo bqn bqc] 55)).alloc (by simp) (Obj.cells #[.int .u32 ta, .slice aqo aqn aqc] 55))
          refine wpTs_0 ?_
          go_wp2
          go_meet
          case rel => exact ⟨⟨_, _, rfl, rfl, g1, g0⟩, hbX⟩
      case rest =>
        obtain ⟨⟨ba, bb, rfl, rfl, bA4, bB4⟩, hb4⟩ := hcut
        have HB4 := hid (HB2.out.trans ((hbr.trans (hb4.mono hbr.size)).mono HB2.out.size))
        have HE4 := hid (fun (j : Nat) (hj : j < 23) => kept (HEc.out j hj) (hbr.trans (hb4.mono hbr.size)))
        have HA4 := hid bA4
        have HB5 := hid bB4
        clear bA4 bB4 hb4 ca0 ca1 cb0 cb1 d2 e0 e1 j0 j1 l0 l1 hIr hbr HEc HB2 HI2 HY hk hlt t0 hmn hen hw1
        obtain ⟨W4, hW4⟩ : ∃ X, X = wc := ⟨_, rfl⟩
        rw [← hW4] at HE4 HB4 HA4 HB5 ⊢
        clear hW4
        go_wp2
        go_loopw [9] (fun k_ wr => ∃ k : Nat, k ≤ 4 ∧ k_ = .int .i64 k ∧ W4 = wr) (fun k_ _ => 4 - (intOf k_).toNat)
        case atStart => exact ⟨0, by omega, rfl, rfl⟩
        case round =>
          obtain ⟨m, hm, rfl, rfl⟩ := hrel
          by_cases hlt2 : m < 4
          · have t1 : decide ((m : Int) < 4) = true := by simp; omega
            have em := HE4.out (19 + m) (by omega)
            have j0 : (0 : Int) ≤ (m : Int) := by omega
            have j1 : (m : Int) < 4 := by omega
            have bq := blk_cell HB5.out 1
            have aq := blk_cell HA4.out 1
            generalize h k (19 + m) = z at em
            cases a1 : inR z 0 bqn
            · go_wp2_with (go_at_call 38; refine (in10_any _ _ _ _).mono ?_; rintro e w' ⟨rfl, rfl⟩)
              go_ret
              exact ⟨false, rfl, HB4.out⟩
            · cases hz : (z == 0)
              · have hz' : (z != 0) = true := by simp only [bne, hz]; rfl
                by_cases hq : aqn ≤ m
                · have t2 : decide ((aqn : Int) ≤ (m : Int)) = true := by simp; omega
                  go_wp2_with (go_at_call 38; refine (in10_any _ _ _ _).mono ?_; rintro e w' ⟨rfl, rfl⟩)
                  go_ret
                  exact ⟨false, rfl, HB4.out⟩
                · have t2 : decide ((aqn : Int) ≤ (m : Int)) = false := by simp; omega
                  go_wp2_with (go_at_call 38; refine (in10_any _ _ _ _).mono ?_; rintro e w' ⟨rfl, rfl⟩)
                  go_loopw [11] (fun j_ wr => ∃ j : Nat, j ≤ m ∧ j_ = .int .i64 j ∧ W4 = wr) (fun j_ _ => m - (intOf j_).toNat)
                  case atStart => exact ⟨0, by omega, rfl, rfl⟩
                  case round =>
                    obtain ⟨j, hj, rfl, rfl⟩ := hrel
                    by_cases hlt3 : j < m
                    · have t3 : decide ((j : Int) < (m : Int)) = true := by simp; omega
                      have ej := HE4.out (19 + j) (by omega)
                      generalize h k (19 + j) = y at ej
                      have l0 : (0 : Int) ≤ (j : Int) := by omega
                      have l1 : (j : Int) < 4 := by omega
                      cases hy : (y == z)
                      · go_wp2
                        go_roundw
                        case rel => exact ⟨j + 1, by omega, by go_num, trivial⟩
                        case measure => simp [intOf]; omega
                      · go_wp2
                        go_ret
                        exact ⟨false, rfl, HB4.out⟩
                    · obtain rfl : j = m := by omega
                      have t3 : decide ((j : Int) < (j : Int)) = false := by simp
                      go_wp2
                      go_roundw
                      case rel => exact ⟨j + 1, by omega, by go_num, trivial⟩
                      case measure => simp [intOf]; omega
              · have hz' : (z != 0) = false := by simp only [bne, hz]; rfl
                go_wp2_with (go_at_call 38; refine (in10_any _ _ _ _).mono ?_; rintro e w' ⟨rfl, rfl⟩)
                go_loopw [11] (fun j_ wr => ∃ j : Nat, j ≤ m ∧ j_ = .int .i64 j ∧ W4 = wr) (fun j_ _ => m - (intOf j_).toNat)
                case atStart => exact ⟨0, by omega, rfl, rfl⟩
                case round =>
                  obtain ⟨j, hj, rfl, rfl⟩ := hrel
                  by_cases hlt3 : j < m
                  · have t3 : decide ((j : Int) < (m : Int)) = true := by simp; omega
                    go_wp2
                    go_roundw
                    case rel => exact ⟨j + 1, by omega, by go_num, trivial⟩
                    case measure => simp [intOf]; omega
                  · obtain rfl : j = m := by omega
                    have t3 : decide ((j : Int) < (j : Int)) = false := by simp
                    go_wp2
                    go_roundw
                    case rel => exact ⟨j + 1, by omega, by go_num, trivial⟩
                    case measure => simp [intOf]; omega
          · have hm4 : (m : Int) = 4 := by omega
            rw [hm4]
            clear hm4
            go_wp2
            go_loopw [12] (fun k_ wr => ∃ k : Nat, k ≤ 16 ∧ k_ = .int .i64 k ∧ W4 = wr) (fun k_ _ => 16 - (intOf k_).toNat)
            case atStart => exact ⟨0, by omega, rfl, rfl⟩
            case round =>
              obtain ⟨l, hl, rfl, rfl⟩ := hrel
              by_cases hlt4 : l < 16
              · have t4 : decide ((l : Int) < 16) = true := by simp; omega
                obtain ⟨bit, hbit⟩ : ∃ bit : Nat → Bool, ∀ s X, Calls Tryd.prog 11 #[.int .u32 (s : Nat), .int .i64 l] X fun e w' => e = .returned (.bool (bit s)) ∧ w' = X := ⟨fun s => decide (l < 32) && s.testBit l, fun s X => has10_any s l (by unfold maxLen; omega) X⟩
                have HH := hid hbit
                clear hbit
                have e2 := HE4.out 2 (by omega)
                have el := HE4.out (3 + l) (by omega)
                have l0 : (0 : Int) ≤ (l : Int) := by omega
                have l1 : (l : Int) < 16 := by omega
                have bq := blk_cell HB5.out 0
                have aq := blk_cell HA4.out 0
                generalize h k (3 + l) = z at el
                cases hp : (h k 2 == 3)
                · skip
                  cases a1 : inR z 0 16384
                  · go_wp2_with (first | (go_at_call 38; refine (in10_any _ _ _ _).mono ?_; rintro e w' ⟨rfl, rfl⟩) | (go_at_call 11; refine (HH.out _ _).mono ?_; rintro e w' ⟨rfl, rfl⟩))
                    go_ret
                    exact ⟨false, rfl, HB4.out⟩
                  · cases hz : (z == 0)
                    · have hz' : (z != 0) = true := by simp only [bne, hz]; rfl
                      go_wp2_with (first | (go_at_call 38; refine (in10_any _ _ _ _).mono ?_; rintro e w' ⟨rfl, rfl⟩) | (go_at_call 11; refine (HH.out _ _).mono ?_; rintro e w' ⟨rfl, rfl⟩))
                      go_ret
                      exact ⟨false, rfl, HB4.out⟩
                    · have hz' : (z != 0) = false := by simp only [bne, hz]; rfl
                      go_wp2_with (first | (go_at_call 38; refine (in10_any _ _ _ _).mono ?_; rintro e w' ⟨rfl, rfl⟩) | (go_at_call 11; refine (HH.out _ _).mono ?_; rintro e w' ⟨rfl, rfl⟩))
                      go_roundw
                      case rel => exact ⟨l + 1, by omega, by go_num, trivial⟩
                      case measure => simp [intOf]; omega
                · cases hB : bit tb
                  · skip
                    cases a1 : inR z 0 16384
                    · go_wp2_with (first | (go_at_call 38; refine (in10_any _ _ _ _).mono ?_; rintro e w' ⟨rfl, rfl⟩) | (go_at_call 11; refine (HH.out _ _).mono ?_; rintro e w' ⟨rfl, rfl⟩))
                      go_ret
                      exact ⟨false, rfl, HB4.out⟩
                    · cases hz : (z == 0)
                      · have hz' : (z != 0) = true := by simp only [bne, hz]; rfl
                        go_wp2_with (first | (go_at_call 38; refine (in10_any _ _ _ _).mono ?_; rintro e w' ⟨rfl, rfl⟩) | (go_at_call 11; refine (HH.out _ _).mono ?_; rintro e w' ⟨rfl, rfl⟩))
                        go_ret
                        exact ⟨false, rfl, HB4.out⟩
                      · have hz' : (z != 0) = false := by simp only [bne, hz]; rfl
                        go_wp2_with (first | (go_at_call 38; refine (in10_any _ _ _ _).mono ?_; rintro e w' ⟨rfl, rfl⟩) | (go_at_call 11; refine (HH.out _ _).mono ?_; rintro e w' ⟨rfl, rfl⟩))
                        go_roundw
                        case rel => exact ⟨l + 1, by omega, by go_num, trivial⟩
                        case measure => simp [intOf]; omega
                  · cases hA : bit ta
                    · skip
                      cases a1 : inR z 0 16384
                      · go_wp2_with (first | (go_at_call 38; refine (in10_any _ _ _ _).mono ?_; rintro e w' ⟨rfl, rfl⟩) | (go_at_call 11; refine (HH.out _ _).mono ?_; rintro e w' ⟨rfl, rfl⟩))
                        go_ret
                        exact ⟨false, rfl, HB4.out⟩
                      · cases hz : (z == 0)
                        · have hz' : (z != 0) = true := by simp only [bne, hz]; rfl
                          go_wp2_with (first | (go_at_call 38; refine (in10_any _ _ _ _).mono ?_; rintro e w' ⟨rfl, rfl⟩) | (go_at_call 11; refine (HH.out _ _).mono ?_; rintro e w' ⟨rfl, rfl⟩))
                          go_roundw
                          case rel => exact ⟨l + 1, by omega, by go_num, trivial⟩
                          case measure => simp [intOf]; omega
                        · have hz' : (z != 0) = false := by simp only [bne, hz]; rfl
                          go_wp2_with (first | (go_at_call 38; refine (in10_any _ _ _ _).mono ?_; rintro e w' ⟨rfl, rfl⟩) | (go_at_call 11; refine (HH.out _ _).mono ?_; rintro e w' ⟨rfl, rfl⟩))
                          go_roundw
                          case rel => exact ⟨l + 1, by omega, by go_num, trivial⟩
                          case measure => simp [intOf]; omega
                    · skip
                      cases a1 : inR z 0 16384
                      · go_wp2_with (first | (go_at_call 38; refine (in10_any _ _ _ _).mono ?_; rintro e w' ⟨rfl, rfl⟩) | (go_at_call 11; refine (HH.out _ _).mono ?_; rintro e w' ⟨rfl, rfl⟩))
                        go_ret
                        exact ⟨false, rfl, HB4.out⟩
                      · cases hz : (z == 0)
                        · have hz' : (z != 0) = true := by simp only [bne, hz]; rfl
                          go_wp2_with (first | (go_at_call 38; refine (in10_any _ _ _ _).mono ?_; rintro e w' ⟨rfl, rfl⟩) | (go_at_call 11; refine (HH.out _ _).mono ?_; rintro e w' ⟨rfl, rfl⟩))
                          go_ret
                          exact ⟨false, rfl, HB4.out⟩
                        · have hz' : (z != 0) = false := by simp only [bne, hz]; rfl
                          go_wp2_with (first | (go_at_call 38; refine (in10_any _ _ _ _).mono ?_; rintro e w' ⟨rfl, rfl⟩) | (go_at_call 11; refine (HH.out _ _).mono ?_; rintro e w' ⟨rfl, rfl⟩))
                          go_roundw
                          case rel => exact ⟨l + 1, by omega, by go_num, trivial⟩
                          case measure => simp [intOf]; omega
              · obtain rfl : l = 16 := by omega
                go_wp2
                go_ret
                exact ⟨true, rfl, HB4.out⟩
end Go.Proofs.YtijnpkbijljnlaaDoor
