/-
  May an image be: the walk through all its parts.
-/
import Derived.Test.YtijnpkbijljnlaaDoorEdge10
namespace Go.Proofs.YtijnpkbijljnlaaDoor
open Go.RowKit Go.Shelf
attribute [local go_sem] stillAt
/-- What an image that may be has. -/
structure RightF (x : Img) (g : Nat → Nat → Int) : Prop where
  r1 : 0 ≤ x.r
  r2 : x.r ≤ 8
  n1 : 1 ≤ x.n
  n2 : x.n ≤ 16
  tasks : ∀ i, i < x.n → OkTask (g i) x.r
set_option maxRecDepth 100000 in
set_option maxHeartbeats 2000000 in
theorem check10_any (x : Img) (g : Nat → Nat → Int) (M : Nat → ModeR) (q : Nat → Nat → Nat → Int) (h : Nat → Nat → Int) (w : World) (hx : ImgAt w x g M q h) :
    Calls Tryd.prog 26 #[iv x] w fun E w' => ∃ a e : Int, E = .returned (.tuple #[.int .i64 a, .int .i64 e]) ∧ (e = 0 → RightF x g) ∧ Below w.heap.size w w' := by
  have hmn := hx.mn
  have hen := hx.en
  have hn := hx.n
  have HX := hid hx
  have HE := hid fun (i : Nat) (W : World) (hW : Below w.heap.size w W) (hi : i < x.en) => edge10_any x g M q h i W (hx.below hW) hi
  have HR := hid (show (0 ≤ x.r ∧ x.r ≤ 8) → (1 ≤ (x.n : Int) ∧ (x.n : Int) ≤ 16) → (∀ i, i < x.n → OkTask (g i) x.r) → RightF x g from fun h1 h2 h3 => ⟨h1.1, h1.2, by omega, by omega, h3⟩)
  have HT := hid hx.tasks
  have HM := hid hx.modes
  have HQ := hid fun i (hi : i < x.mn) => And.intro (hx.queues i hi) (hx.qn i hi)
  have HTB := hid hx.tb
  clear hx HX
  obtain ⟨r, ao, n, cap, mo, mn, mc, eo, en, ec⟩ := x
  unfold iv at HE ⊢
  dsimp only at hmn hen hn HE HR HT HM HQ HTB ⊢
  unfold maxLen at hmn hen hn
  have hb1 : Below w.heap.size w (w.alloc (Obj.cells #[.int .i64 r, .slice ao n cap, .slice mo mn mc, .slice eo en ec] 26)) := (Below.refl _ _).alloc (Nat.le_refl _) _
  have bI := heap_alloc_new w (Obj.cells #[.int .i64 r, .slice ao n cap, .slice mo mn mc, .slice eo en ec] 26)
  have c0 := blk_cell bI 0
  have c1 := blk_cell bI 1
  cases a1 : inR r 0 8
  · go_enter Tryd.func26, Tryd.ntmps26
    go_wp2_with (go_at_call 38; refine (in10_any _ _ _ _).mono ?_; rintro e w' ⟨rfl, rfl⟩)
    go_ret2
    exact ⟨_, _, rfl, fun h => by omega, hb1⟩
  cases a2 : inR n 1 16
  · go_enter Tryd.func26, Tryd.ntmps26
    go_wp2_with (go_at_call 38; refine (in10_any _ _ _ _).mono ?_; rintro e w' ⟨rfl, rfl⟩)
    go_ret2
    exact ⟨_, _, rfl, fun h => by omega, hb1⟩
  have y1 := inR_yes a1
  have y2 := inR_yes a2
  have HR2 := hid fun h3 => HR.out y1 y2 h3
  have hn16 : n ≤ 16 := by omega
  go_enter Tryd.func26, Tryd.ntmps26
  go_wp2_with (go_at_call 38; refine (in10_any _ _ _ _).mono ?_; rintro e w' ⟨rfl, rfl⟩)
  obtain ⟨W1, hW1⟩ : ∃ X, X = w.alloc (Obj.cells #[.int .i64 r, .slice ao n cap, .slice mo mn mc, .slice eo en ec] 26) := ⟨_, rfl⟩
  rw [← hW1] at hb1 bI ⊢
  have HB1 := hid hb1
  have HI := hid bI
  clear hW1 c0 c1 a1 a2 y1 y2 HR hb1 bI
  have HA0 : Hid (∀ k, k < 0 → OkTask (g k) r) := fun k hk => by omega
  go_loopw [4, 5] (fun z_ i_ wr => ∃ (z i : Nat), i ≤ n ∧ z < 4294967296 ∧ z_ = .int .u32 z ∧ i_ = .int .i64 i ∧ Hid (∀ k, k < i → OkTask (g k) r) ∧ Below W1.heap.size W1 wr) (fun _ i_ _ => n - (intOf i_).toNat)
  case atStart => exact ⟨0, 0, by omega, by omega, rfl, rfl, HA0, Below.refl _ _⟩
  case round =>
    clear HA0
    obtain ⟨z, i, hi, hz, rfl, rfl, HA, hbr⟩ := hrel
    have bI := (hbr.block _ (Array.getElem?_eq_some_iff.1 HI.out).1).trans HI.out
    have c0 := blk_cell bI 0
    have c1 := blk_cell bI 1
    by_cases hlt : i < n
    · have t0 : decide ((i : Int) < (n : Int)) = true := by simp; omega
      have hTW := (HT.out.below HB1.out).below hbr
      obtain ⟨b, o, rfl, _⟩ := HT.out i hlt
      obtain ⟨⟨p0, p1, p2, p3⟩, ⟨p4, p5, p6, p7⟩, p8, p9, p10⟩ := hTW.at_ hlt
      have i0' : (0 : Int) ≤ (i : Int) := by omega
      have i1 : (i : Int) < (n : Int) := by omega
      have HA2 : Hid (OkTask (g i) r → ∀ k, k < i + 1 → OkTask (g k) r) := fun h k hk => by
        rcases (show k < i ∨ k = i by omega) with h1 | rfl
        · exact HA.out k h1
        · exact h
      have HTA := hid fun X => task10_any (g i) r X
      go_wp2
      refine wp_region_chain [7, 8] (fun X => Below wr.heap.size wr X) (by kernel_rfl) (by kernel_rfl) (by exact ⟨rfl, rfl, rfl, Nat.le_refl _, fun _ _ => rfl⟩) ?_
      refine wpFl_still (by rfl) (by rfl) (fun K hK => ?_)
      go_simp
      refine ⟨_, fun _ _ => rfl, hK _ ?_⟩
      clear hK K
      refine wpFl_still (by rfl) (by rfl) (fun K hK => ?_)
      go_simp
      refine ⟨.slice (some ⟨b, o, none⟩) n cap, fun X hX => ?_, hK _ ?_⟩
      · have z0 := kept c1 hX
        go_simp
      clear hK K
      refine wpFl_still (by rfl) (by rfl) (fun K hK => ?_)
      go_simp
      refine ⟨_, fun _ _ => rfl, hK _ ?_⟩
      clear hK K
      refine wpFl_still (by rfl) (by rfl) (fun K hK => ?_)
      go_simp
      refine ⟨_, fun _ _ => rfl, hK _ ?_⟩
      clear hK K
      refine wpFl_still (by rfl) (by rfl) (fun K hK => ?_)
      go_simp
      refine ⟨tv (g i), fun X hX => ?_, hK _ ?_⟩
      · have z0 := kept p0 hX
        have z1 := kept p1 hX
        have z2 := kept p2 hX
        have z3 := kept p3 hX
        have z4 := kept p4 hX
        have z5 := kept p5 hX
        have z6 := kept p6 hX
        have z7 := kept p7 hX
        have z8 := kept p8 hX
        have z9 := kept p9 hX
        have z10 := kept p10 hX
        go_simp
      clear hK K
      refine wpFl_still (by rfl) (by rfl) (fun K hK => ?_)
      go_simp
      refine ⟨_, fun _ _ => rfl, hK _ ?_⟩
      clear hK K
      refine wpFl_still (by rfl) (by rfl) (fun K hK => ?_)
      go_simp
      refine ⟨.int .i64 r, fun X hX => ?_, hK _ ?_⟩
      · have z0 := kept c0 hX
        go_simp
      clear hK K
      repeat (refine wpFl_chain (by rfl) ?_)
      refine wpFl_nil ?_
      refine wpTl_on (by rfl) (fun K hK => ?_)
      go_wp2_with fail
      refine (HTA.out _).mono ?_
      rintro e w2 ⟨rr, rfl, hok, hb2⟩
      go_wp2_with fail
      have hb2' : Below wr.heap.size wr w2 := ⟨hb2.os, hb2.tape, hb2.output, hb2.size, hb2.block⟩
      refine hK _ _ hb2' ?_
      clear hK K
      refine wpTl_on (by rfl) (fun K hK => ?_)
      go_wp2_with fail
      refine hK _ _ hb2' ?_
      clear hK K
      refine wpTl_nil ?_
      have hbX := hbr.trans (hb2'.mono hbr.size)
      clear p0 p1 p2 p3 p4 p5 p6 p7 p8 p9 p10
      cases rr
      · go_wp2
        go_ret2
        exact ⟨_, _, rfl, fun h => by omega, HB1.out.trans (hbX.mono HB1.out.size)⟩
      · have HA3 := hid (HA2.out (hok rfl))
        clear hok
        go_wp2
        go_roundw
        case rel => exact ⟨(z + 2 ^ i % 4294967296) % 4294967296, i + 1, by omega, Nat.mod_lt _ (by decide), by go_num, by go_num, HA3, hbX⟩
        case measure => simp [intOf]; omega
    · obtain rfl : i = n := by omega
      have t0 : decide ((i : Int) < (i : Int)) = false := by simp
      have c2 := blk_cell bI 2
      have HR3 := hid (HR2.out HA.out)
      clear HR2 HA
      cases a3 : inR mn 1 8
      · go_wp2_with (go_at_call 38; refine (in10_any _ _ _ _).mono ?_; rintro e w' ⟨rfl, rfl⟩)
        go_ret2
        exact ⟨_, _, rfl, fun h => by omega, HB1.out.trans (hbr.mono HB1.out.size)⟩
      go_wp2_with (go_at_call 38; refine (in10_any _ _ _ _).mono ?_; rintro e w' ⟨rfl, rfl⟩)
      obtain ⟨W2, hW2⟩ : ∃ X, X = wr := ⟨_, rfl⟩
      rw [← hW2] at hbr bI ⊢
      have HBR := hid (HB1.out.trans (hbr.mono HB1.out.size))
      have HI2 := hid bI
      clear hbr bI c0 c1 c2 hW2 a3 HI HB1 HT
      go_loopw [6] (fun k_ wr => ∃ k : Nat, k ≤ mn ∧ k_ = .int .i64 k ∧ W2 = wr) (fun k_ _ => mn - (intOf k_).toNat)
      case atStart => exact ⟨0, by omega, rfl, rfl⟩
      case round =>
        obtain ⟨k, hk, rfl, rfl⟩ := hrel
        have c2 := blk_cell HI2.out 2
        by_cases hlt : k < mn
        · have t1 : decide ((k : Int) < (mn : Int)) = true := by simp; omega
          obtain ⟨b, o, rfl, d0, d1⟩ := (HM.out.below HBR.out) k hlt
          have i0' : (0 : Int) ≤ (k : Int) := by omega
          have i1 : (k : Int) < (mn : Int) := by omega
          have HQK := hid fun qc => queues10_any (M k).qo (M k).qn qc (q k) W2 ((HQ.out k hlt).1.below HBR.out) (HQ.out k hlt).2
          have HTK := hid (HTB.out k hlt)
          generalize M k = A at d0 d1 HQK HTK
          obtain ⟨ta, aqo, aqn, aqc⟩ := A
          dsimp only at d0 d1 HQK HTK
          have hta := HTK.out
          clear HTK
          go_wp2_with (go_at_call 40; refine (HQK.out _).mono ?_; rintro e w' ⟨rr, rfl, rfl⟩)
          all_goals first
            | (go_ret2
               exact ⟨_, _, rfl, fun h => by omega, HBR.out⟩)
            | (go_roundw
               case rel => exact ⟨k + 1, by omega, by go_num, trivial⟩
               case measure => simp [intOf]; omega)
        · obtain rfl : k = mn := by omega
          have t1 : decide ((k : Int) < (k : Int)) = false := by simp
          have c3 := blk_cell HI2.out 3
          by_cases hen24 : en ≤ 24
          · have t2 : decide ((24 : Int) < (en : Int)) = false := by simp; omega
            go_wp2
            clear c2 c3 hk hlt t1
            go_loopw [7] (fun k_ wr => ∃ k : Nat, k ≤ en ∧ k_ = .int .i64 k ∧ Below W2.heap.size W2 wr) (fun k_ _ => en - (intOf k_).toNat)
            case atStart => exact ⟨0, by omega, rfl, Below.refl _ _⟩
            case round =>
              obtain ⟨l, hl, rfl, hbr⟩ := hrel
              have bI := (hbr.block _ (Array.getElem?_eq_some_iff.1 HI2.out).1).trans HI2.out
              have c0 := blk_cell bI 0
              have c1 := blk_cell bI 1
              have c2 := blk_cell bI 2
              have c3 := blk_cell bI 3
              have HBX := hid (HBR.out.trans (hbr.mono HBR.out.size))
              by_cases hlt : l < en
              · have t1 : decide ((l : Int) < (en : Int)) = true := by simp; omega
                have HEl := hid (HE.out l wr HBX.out hlt)
                go_wp2_with (go_at_call 41; refine HEl.out.mono ?_; rintro e w2 ⟨rr, rfl, hb2⟩)
                all_goals first
                  | (go_ret2
                     exact ⟨_, _, rfl, fun h => by omega, HBX.out.trans (hb2.mono HBX.out.size)⟩)
                  | (go_roundw
                     case rel => exact ⟨l + 1, by omega, by go_num, hbr.trans (hb2.mono hbr.size)⟩
                     case measure => simp [intOf]; omega)
              · obtain rfl : l = en := by omega
                have t1 : decide ((l : Int) < (l : Int)) = false := by simp
                go_wp2
                go_ret2
                exact ⟨_, _, rfl, fun _ => HR3.out, HBX.out⟩
          · have t2 : decide ((24 : Int) < (en : Int)) = true := by simp; omega
            go_wp2
            go_ret2
            exact ⟨_, _, rfl, fun h => by omega, HBR.out⟩
set_option maxRecDepth 100000 in
theorem right10_any (x : Img) (g : Nat → Nat → Int) (M : Nat → ModeR) (q : Nat → Nat → Nat → Int) (h : Nat → Nat → Int) (w : World) (hx : ImgAt w x g M q h) :
    Calls Tryd.prog 13 #[iv x] w fun E w' => ∃ rr : Bool, E = .returned (.bool rr) ∧ (rr = true → RightF x g) ∧ Below w.heap.size w w' := by
  have HC := hid fun X (hX : Below w.heap.size w X) => check10_any x g M q h X (hx.below hX)
  clear hx
  obtain ⟨r, ao, n, cap, mo, mn, mc, eo, en, ec⟩ := x
  unfold iv at HC ⊢
  dsimp only at HC ⊢
  have hb1 : Below w.heap.size w (w.alloc (Obj.cells #[.int .i64 r, .slice ao n cap, .slice mo mn mc, .slice eo en ec] 26)) := (Below.refl _ _).alloc (Nat.le_refl _) _
  have bI := heap_alloc_new w (Obj.cells #[.int .i64 r, .slice ao n cap, .slice mo mn mc, .slice eo en ec] 26)
  have c0 := blk_cell bI 0
  have c1 := blk_cell bI 1
  have c2 := blk_cell bI 2
  have c3 := blk_cell bI 3
  go_enter Tryd.func13, Tryd.ntmps13
  go_wp2_with (go_at_call 26; refine (HC.out _ hb1).mono ?_; rintro e w2 ⟨a, e', rfl, hf, hb2⟩)
  go_ret
  exact ⟨_, rfl, fun h => hf (by simpa using h), hb1.trans (hb2.mono hb1.size)⟩
end Go.Proofs.YtijnpkbijljnlaaDoor
