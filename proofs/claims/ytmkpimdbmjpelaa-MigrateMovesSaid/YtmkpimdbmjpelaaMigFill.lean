/-
  Layer 29: contract of the law's fill: queues with their messages.
-/
import Derived.Test.YtmkpimdbmjpelaaMigMove
namespace Go.Proofs.Ytmkpimdbmjpelaa
open Go.RowKit Go.Shelf
theorem fillv_any (base p Bl cap : Nat) (pol : Int) (r : MRow) (w : World) (hf : QAt w base p (cap : Int) pol (.slice none 0 0) [] 0) (hcap : 1 ≤ cap ∧ cap ≤ 16) (hb : base ≤ w.heap.size)
    (hr : MOf w r) (hlow : ∀ b o, r.ao = some ⟨b, o, none⟩ → 0 < r.xs.length → b ≠ p) (hB : Boxed w Bl 24 (mv r)) (hL : r.xs.length ≤ 100) :
    Calls Try.prog 33 #[.pointer (some ⟨p, 0, none⟩), .func (.func 42) #[] #[.pointer (some ⟨Bl, 0, none⟩)]] w fun e w' =>
      e = .returned (.int .i64 ((r.xs.length - cap : Nat) : Int)) ∧ ∃ u, QAt w' base p (cap : Int) pol u (lastF r.xs cap) (min (r.xs.length - cap : Nat) 4096) ∧ Heir w (.slice none 0 0) u ∧ Save (fun k => k = p) w w' := by
  obtain ⟨lo, lc, L⟩ := r
  obtain ⟨hrow, hc1, hc2, hc3⟩ := hr
  simp only at hrow hc1 hc2 hc3 hlow hL ⊢
  have hseq := values1_in 7 (by omega) Bl lo lc L w (by omega) hB hrow
  obtain ⟨lo', hlo'⟩ : ∃ lo' : Option Addr, lo' = if L.length = 0 then none else lo := ⟨_, rfl⟩
  have hsq : SeqStopsK Fence.wide 7 Try.prog 42 #[.pointer (some ⟨Bl, 0, none⟩)] (fun x : Int => #[.int .i64 x]) (KpR lo') (fun ys => ys = L) (fun pre => pre <+: L) L.length w := by
    rw [hlo']
    split
    · rename_i h0
      intro l J Jx W hW hJ hJx hY h1
      exact hseq l J Jx W hW hJ hJx (fun pre x W1 _ hlt => by omega) h1
    · exact hseq
  have := fill_any 42 #[.pointer (some ⟨Bl, 0, none⟩)] base p cap pol 0 (.slice none 0 0) [] L lo' w hf hb hcap (by simp) (by omega) hL (fun a ha => by
    rw [hlo'] at ha
    split at ha
    · cases ha
    · rename_i h0
      obtain ⟨b', o', e', c'⟩ := hrow 0 (by omega)
      have h1 := hlow b' o' e' (by omega)
      rw [ha] at e'
      cases e'
      exact ⟨cell_lt c', h1, fun e2 => by cases e2⟩) (enters_of Try.func42 (by kernel_rfl) rfl) hsq
  unfold FillPost at this
  rw [fillL_new cap hcap.1] at this
  refine this.mono ?_
  rintro e2 w2 ⟨rfl, u, h3, h4, h5⟩
  refine ⟨rfl, u, ?_, h4, h5.mono fun k hk => ?_⟩
  · have e3 : min ((0 : Int) + ((L.length - cap : Nat) : Int)) 4096 = min (((L.length - cap : Nat) : Nat) : Int) 4096 := by omega
    rw [← e3]; exact h3
  · rcases hk with hk | hk
    · exact hk
    · cases hk
/-- What an old queue holds. -/
def wasF (g : Nat → Nat → Int) (mn : Nat) (M : Nat → MRow) (i : Nat) : List Int := if i < mn then lastF (M i).xs (g i 0).toNat else []
def FillP (g : Nat → Nat → Int) (n mn : Nat) (M : Nat → MRow) (w : World) (e : Ending) (w' : World) : Prop :=
  ∃ v P q, e = .returned v ∧ w'.ownsRow w.heap.size 39 1 v n (ptrs P n) ∧ Qs w' w.heap.size n P q ∧ (∀ j, j < n → (q j).cap = (g j 0).toNat ∧ (q j).pol = g j 1 ∧ (q j).xs = wasF g mn M j) ∧ Below w.heap.size w w'
/-- The cells that a statement reads. -/
structure Cells3 (X : World) (b1 o1 b2 o2 b3 o3 : Nat) (v1 v2 v3 : Value) : Prop where
  a : X.cell? ⟨b1, o1, none⟩ = some v1
  b : X.cell? ⟨b2, o2, none⟩ = some v2
  c : X.cell? ⟨b3, o3, none⟩ = some v3
attribute [local go_sem] stillAt
set_option maxRecDepth 100000 in
set_option maxHeartbeats 2000000 in
theorem fill29_any (so mo : Option Addr) (n sc mn mc : Nat) (g : Nat → Nat → Int) (M : Nat → MRow) (w : World) (hS : Sets w so n g) (hR : RightS n g) (hM : Msgs w mo mn M) (hmn : mn ≤ 100) (hL : ∀ i, i < mn → (M i).xs.length ≤ 100) (hlow : ∀ i, i < mn → ∀ b o, (M i).ao = some ⟨b, o, none⟩ → 0 < (M i).xs.length → b < w.heap.size) :
    Calls Try.prog 20 #[.agg #[.slice so n sc, .slice mo mn mc]] w fun e w' => FillP g n mn M w e w' := by
  have hn : n ≤ 4 := hR.1
  have bA := (Below.refl w.heap.size w).alloc (Nat.le_refl _) (Obj.cells #[.slice so n sc, .slice mo mn mc] 47)
  have hblk : (w.alloc (Obj.cells #[.slice so n sc, .slice mo mn mc] 47)).heap[w.heap.size]? = some (Obj.cells #[.slice so n sc, .slice mo mn mc] 47) := heap_alloc_new w _
  have HBA := hid bA
  have HBLK := hid hblk
  have HR := hid hR
  have HM := hid hM
  have HL := hid hL
  have HLOW := hid hlow
  have HS := hid hS
  have c0 : (w.alloc (Obj.cells #[.slice so n sc, .slice mo mn mc] 47)).cell? ⟨w.heap.size, 0, none⟩ = some (.slice so n sc) := blk_cell hblk 0
  have tn : ((n : Int) != (n : Int)) = false := by simp
  clear hR hM hL hlow hS bA hblk
  go_enter Try.func20, Try.ntmps20
  go_wp2_with fail
  obtain ⟨W1, hW1⟩ : ∃ W, W = w.alloc (Obj.cells #[.slice so n sc, .slice mo mn mc] 47) := ⟨_, rfl⟩
  have hs1 : W1.heap.size = w.heap.size + 1 := by rw [hW1]; simp
  rw [← hW1] at HBA HBLK ⊢
  clear hW1 c0
  refine (make_good so n sc g W1 (HS.out.below HBA.out) HR.out).mono ?_
  rintro e w2 ⟨P, v, rfl, own2, qs2, b2⟩
  obtain ⟨ao, ac, rfl, hac, hPR⟩ := prow_of_own own2
  have hblk2 := blk_save HBLK.out (Save.of_below b2 fun _ => False) id
  have d0 : w2.cell? ⟨w.heap.size, 0, none⟩ = some (.slice so n sc) := blk_cell hblk2 0
  have HO := hid own2
  have HQ := hid qs2
  have HB2 := hid (HBA.out.trans (b2.mono HBA.out.size))
  have HK2 := hid hblk2
  have HST : Hid (∀ j, j < n → (fresh g j).cap = (g j 0).toNat ∧ (fresh g j).pol = g j 1 ∧ (fresh g j).xs = (if j < 0 then wasF g mn M j else [])) := fun j hj => ⟨rfl, rfl, by simp; rfl⟩
  clear own2 qs2 hPR b2 hblk2
  have HSZ : w.heap.size ≤ W1.heap.size := by omega
  go_wp2
  go_loopw [5] (fun i_ wr => ∃ (i : Nat) (q : Nat → QSt), i_ = .int .i64 i ∧ i ≤ n ∧ Hid (wr.ownsRow W1.heap.size 39 1 (.slice ao n ac) n (ptrs P n)) ∧ Hid (Qs wr W1.heap.size n P q) ∧
    Hid (∀ j, j < n → (q j).cap = (g j 0).toNat ∧ (q j).pol = g j 1 ∧ (q j).xs = (if j < i then wasF g mn M j else [])) ∧ Hid (∀ j, j < n → i ≤ j → q j = fresh g j) ∧ Hid (wr.heap[w.heap.size]? = some (Obj.cells #[.slice so n sc, .slice mo mn mc] 47)) ∧ Hid (Below w.heap.size w wr)) (fun i_ _ => n - (intOf i_).toNat)
  case atStart => exact ⟨0, _, rfl, Nat.zero_le _, HO, HQ, HST, fun _ _ _ => rfl, HK2, HB2⟩
  case round =>
    clear HO HQ HST HK2 HB2 d0
    obtain ⟨i, q, rfl, hin, HO, HQ, HST, HFR, HK, HB⟩ := hrel
    by_cases hlt : i < n
    · have t0 : decide ((i : Int) < (n : Int)) = true := by simp; omega
      obtain ⟨ao', ac', e, _, hPR'⟩ := prow_of_own HO.out
      cases e
      obtain ⟨fb, fo, rfl, cF0⟩ := hPR'.out i hlt
      have cF : wr.cell? ⟨fb, fo + i, none⟩ = some (.pointer (some ⟨P i, 0, none⟩)) := cF0
      have j0' : (0 : Int) ≤ (i : Int) := by omega
      have j1 : (i : Int) < (n : Int) := by omega
      have d1 : wr.cell? ⟨w.heap.size, 1, none⟩ = some (.slice mo mn mc) := blk_cell HK.out 1
      clear hPR' cF0
      by_cases him : i < mn
      · have t1 : decide ((i : Int) < (mn : Int)) = true := by simp; omega
        have j2 : (i : Int) < (mn : Int) := by omega
        obtain ⟨mb, mof, rfl, cm0, hmo⟩ := (HM.out.below HB.out) i him
        have hmbl : mb < w.heap.size := by
          obtain ⟨b', o', e, c, _⟩ := HM.out i him
          cases e
          exact cell_lt c
        have cm' : wr.cell? ⟨mb, mof + i, none⟩ = some (.slice (M i).ao (M i).xs.length (M i).cap) := cm0
        have hq0 : QAt wr W1.heap.size (P i) (((g i 0).toNat : Nat) : Int) (g i 1) (.slice none 0 0) [] 0 := by
          have h := HQ.out.at_ i hlt
          rw [HFR.out i hlt (Nat.le_refl _)] at h
          exact h
        have hcp := (rightB_is.1 (HR.out.2 i hlt)).1
        have hfr := HFR.out i hlt (Nat.le_refl _)
        obtain ⟨cp, hcp2⟩ : ∃ cp, (g i 0).toNat = cp := ⟨_, rfl⟩
        have hwas : wasF g mn M i = lastF (M i).xs cp := by
          unfold wasF; rw [if_pos him, hcp2]
        have HST2 : Hid (∀ (s : QSt), s.cap = cp → s.pol = g i 1 → s.xs = lastF (M i).xs cp → ∀ j, j < n → (putN q i s j).cap = (g j 0).toNat ∧ (putN q i s j).pol = g j 1 ∧ (putN q i s j).xs = (if j < i + 1 then wasF g mn M j else [])) := fun s s1 s2 s3 j hj => by
          by_cases e : j = i
          · subst e
            rw [putN_same, if_pos (Nat.lt_succ_self _)]
            exact ⟨by rw [s1, hcp2], s2, by rw [s3, hwas]⟩
          · rw [putN_other _ _ e]
            obtain ⟨a1, a2, a3⟩ := HST.out j hj
            refine ⟨a1, a2, ?_⟩
            rw [a3]
            by_cases e2 : j < i
            · rw [if_pos e2, if_pos (by omega)]
            · rw [if_neg e2, if_neg (by omega)]
        have HFR2 : Hid (∀ (s : QSt) j, j < n → i + 1 ≤ j → putN q i s j = fresh g j) := fun s j hj h => by
          rw [putN_other _ _ (by omega)]
          exact HFR.out j hj (by omega)
        rw [hcp2] at hq0
        have bB := (Below.refl wr.heap.size wr).trans (show Below wr.heap.size wr wr.drew from ⟨rfl, rfl, rfl, Nat.le_refl _, fun _ _ => rfl⟩)
        have bB1 := bB.alloc (Nat.le_refl _) (Obj.cells #[mv (M i)] 24)
        have hbx := Boxed.new wr.drew 24 (mv (M i))
        have HFI := hid (fillv_any W1.heap.size (P i) wr.heap.size cp (g i 1) (M i) (wr.drew.alloc (Obj.cells #[mv (M i)] 24)) (hq0.below bB1) (by omega) (by rw [World.size_alloc]; have := hq0.lt; have := hq0.low; show W1.heap.size ≤ wr.heap.size + 1; omega) (hmo.below bB1) (fun b o e h => by have := HLOW.out i him b o e h; have := hq0.low; omega) hbx (HL.out i him))
        have HBB := hid bB1
        have HQ0 := hid hq0
        have HFX := hid hfr
        unfold mv at HFI HBB
        obtain ⟨⟨ra, rc, rx⟩, hMi⟩ : ∃ r, M i = r := ⟨_, rfl⟩
        rw [hMi] at cm' HFI HBB HST2
        simp only at cm' HFI HBB HST2
        clear hcp hcp2 hwas hfr bB bB1 hbx cm0 hmo hq0 hMi
        go_wp2
        refine wp_region_chain [9, 10] (fun X => Cells3 X fb (fo + i) w.heap.size 1 mb (mof + i) (.pointer (some ⟨P i, 0, none⟩)) (.slice (some ⟨mb, mof, none⟩) mn mc) (.slice ra rx.length rc)) (by kernel_rfl) (by kernel_rfl) (by exact ⟨cF, d1, cm'⟩) ?_
        repeat (first | refine wpFl_chain (by rfl) ?_ | (refine wpFl_still (by rfl) (by rfl) (fun K hK => ?_); go_simp; (refine ⟨_, fun _ _ => rfl, hK _ ?_⟩; clear hK K)))
        refine wpFl_still (by rfl) (by rfl) (fun K hK => ?_)
        go_simp
        refine ⟨.pointer (some ⟨P i, 0, none⟩), fun X hX => ?_, hK _ ?_⟩
        · have cX := hX.a
          go_simp
        clear hK K
        repeat (first | refine wpFl_chain (by rfl) ?_ | (refine wpFl_still (by rfl) (by rfl) (fun K hK => ?_); go_simp; (refine ⟨_, fun _ _ => rfl, hK _ ?_⟩; clear hK K)))
        refine wpFl_still (by rfl) (by rfl) (fun K hK => ?_)
        go_simp
        refine ⟨.slice (some ⟨mb, mof, none⟩) mn mc, fun X hX => ?_, hK _ ?_⟩
        · have cX := hX.b
          go_simp
        clear hK K
        repeat (first | refine wpFl_chain (by rfl) ?_ | (refine wpFl_still (by rfl) (by rfl) (fun K hK => ?_); go_simp; (refine ⟨_, fun _ _ => rfl, hK _ ?_⟩; clear hK K)))
        refine wpFl_still (by rfl) (by rfl) (fun K hK => ?_)
        go_simp
        refine ⟨.slice ra rx.length rc, fun X hX => ?_, hK _ ?_⟩
        · have cX := hX.c
          go_simp
        clear hK K
        repeat (first | refine wpFl_chain (by rfl) ?_ | (refine wpFl_still (by rfl) (by rfl) (fun K hK => ?_); go_simp; (refine ⟨_, fun _ _ => rfl, hK _ ?_⟩; clear hK K)))
        refine wpFl_nil ?_
        refine wpTl_on (by rfl) (fun K hK => ?_)
        go_wp2_with fail
        refine (values_any ra rx.length rc wr.drew).mono ?_
        rintro e X1 ⟨rfl, rfl⟩
        go_wp2_with fail
        have bc : ∀ {b o : Nat} {v : Value}, wr.cell? ⟨b, o, none⟩ = some v → (wr.drew.alloc (Obj.cells #[Value.slice ra rx.length rc] 24)).cell? ⟨b, o, none⟩ = some v := fun h => (HBB.out.cell (cell_lt h)).trans h
        refine hK _ _ ⟨bc cF, bc d1, bc cm'⟩ ?_
        clear hK K
        refine wpTl_on (by rfl) (fun K hK => ?_)
        go_wp2_with fail
        refine HFI.out.mono ?_
        rintro e w9 ⟨rfl, u, hq9, hh9, hs9⟩
        have hblk := (HQ0.out.below HBB.out).blk
        have hlow0 := HQ0.out.low
        have HOB := HO.out.kept (below_grownQ HBB.out) (by cases e : (Value.slice (some ⟨fb, fo, none⟩) n ac).ownBlock <;> simp)
        have HQB := HQ.out.below HBB.out
        have HKB := blk_save HK.out (Save.of_below HBB.out fun _ => False) id
        have HBX := HB.out.trans (HBB.out.mono HB.out.size)
        have HO9 := hid (own_save2 HOB hs9 fun gg hgg hk => by
          obtain ⟨cur, hc⟩ := own_typ HOB hgg
          rw [hk, hblk] at hc
          cases hc)
        have HK9 := hid (blk_save HKB hs9 fun hk => by
          rw [hk, hblk] at HKB
          cases HKB)
        have HQ9 : Hid (Qs w9 W1.heap.size n P (putN q i ⟨cp, g i 1, u, lastF rx cp, min ((rx.length - cp : Nat) : Int) 4096⟩)) := HQB.turn hlt (hs9.mono fun k hk => .inl hk) hq9 (by
          rw [HFX.out]; exact hh9)
        have HB9 := hid (hs9.below HBX HBX.size fun k hk => by omega)
        have HST3 := hid (HST2.out ⟨cp, g i 1, u, lastF rx cp, min ((rx.length - cp : Nat) : Int) 4096⟩ rfl rfl rfl)
        have HFR3 := hid (HFR2.out ⟨cp, g i 1, u, lastF rx cp, min ((rx.length - cp : Nat) : Int) 4096⟩)
        have cF9 : w9.cell? ⟨fb, fo + i, none⟩ = some (.pointer (some ⟨P i, 0, none⟩)) := by
          obtain ⟨ao', ac', e, _, hp⟩ := prow_of_own HO9.out
          cases e
          obtain ⟨b', o', e, c⟩ := hp.out i hlt
          cases e
          exact c
        have cd9 : w9.cell? ⟨w.heap.size, 1, none⟩ = some (.slice (some ⟨mb, mof, none⟩) mn mc) := blk_cell HK9.out 1
        have cm9 : w9.cell? ⟨mb, mof + i, none⟩ = some (.slice ra rx.length rc) := by
          have h := hs9.below (Below.refl w.heap.size _) HBX.size fun k hk => by omega
          exact (World.cell?_of_block (h.block mb hmbl)).trans (bc cm')
        clear hq9 hh9 hs9 hblk HOB HQB HKB HBX HFI HST2 HFR2 HQ0 HFX
        go_wp2_with fail
        refine hK _ _ ⟨cF9, cd9, cm9⟩ ?_
        clear hK K
        refine wpTl_nil ?_
        go_wp2
        go_roundw
        case rel => exact ⟨i + 1, _, by go_num, by omega, HO9, HQ9, HST3, HFR3, HK9, HB9⟩
        case measure => simp [intOf]; omega
      · have t1 : decide ((i : Int) < (mn : Int)) = false := by simp; omega
        have HST2 : Hid (∀ j, j < n → (q j).cap = (g j 0).toNat ∧ (q j).pol = g j 1 ∧ (q j).xs = (if j < i + 1 then wasF g mn M j else [])) := fun j hj => by
          obtain ⟨a1, a2, a3⟩ := HST.out j hj
          refine ⟨a1, a2, ?_⟩
          rw [a3]
          by_cases e : j = i
          · subst e
            rw [if_neg (by omega), if_pos (by omega)]
            unfold wasF
            rw [if_neg him]
          · by_cases e2 : j < i
            · rw [if_pos e2, if_pos (by omega)]
            · rw [if_neg e2, if_neg (by omega)]
        have HFR2 : Hid (∀ j, j < n → i + 1 ≤ j → q j = fresh g j) := fun j hj h => HFR.out j hj (by omega)
        go_wp2
        go_roundw
        case rel => exact ⟨i + 1, q, by go_num, by omega, HO, HQ, HST2, HFR2, HK, HB⟩
        case measure => simp [intOf]; omega
    · obtain rfl : i = n := by omega
      have t0 : decide ((i : Int) < (i : Int)) = false := by simp
      have HST2 : Hid (∀ j, j < i → (q j).cap = (g j 0).toNat ∧ (q j).pol = g j 1 ∧ (q j).xs = wasF g mn M j) := fun j hj => by
        obtain ⟨a1, a2, a3⟩ := HST.out j hj
        rw [if_pos hj] at a3
        exact ⟨a1, a2, a3⟩
      go_wp2
      go_ret
      exact ⟨_, P, q, rfl, own_base HO.out HSZ, HQ.out.base HSZ, HST2.out, HB.out⟩
end Go.Proofs.Ytmkpimdbmjpelaa
