/-
  Contract of Add.
-/
import Derived.Test.YtdccpbnknfffaaaDeltaDue
namespace Go.Proofs.Ytdccpbnknfffaaa
open Go.RowKit
def addOk (id t : Int) (A : TL) : Bool := decide (1 ≤ t ∧ t ≤ 65536) && ((dueF id 0 A).isSome || decide (A.length < 64))
def addF (id t : Int) (A : TL) : TL := if addOk id t A then insF id t (cancelF id A).1 else A
def AddPost (base qb qo : Nat) (L : List (Nat × Int × Int)) (id t : Int) (w : World) (e : Ending) (w' : World) : Prop :=
  ∃ L' : List (Nat × Int × Int), e = .returned (.bool (addOk id t (tlOf L))) ∧ DQ w' base qb qo L' ∧ tlOf L' = addF id t (tlOf L) ∧ (∀ x ∈ L', (∃ y ∈ L, y.1 = x.1) ∨ w.heap.size ≤ x.1) ∧ DSave qb qo L w w'
theorem DSave.of_below {w w' : World} {qb qo base : Nat} {L : List (Nat × Int × Int)} (hq : DQ w base qb qo L) (hb : Below w.heap.size w w') : DSave qb qo L w w' :=
  ⟨Save.of_below hb _, fun _ _ _ => World.cell?_of_block (hb.block _ hq.lt), fun o => by simp [World.frozen?, hb.block _ hq.lt]⟩
theorem DSave.trans {a b c : World} {qb qo : Nat} {L L1 : List (Nat × Int × Int)} (h : DSave qb qo L a b) (k : DSave qb qo L1 b c) (hL : ∀ x ∈ L1, (∃ y ∈ L, y.1 = x.1) ∨ a.heap.size ≤ x.1) : DSave qb qo L a c :=
  ⟨h.s.trans k.s fun i hi hS => by
    rcases hS with e | ⟨x, hx, e⟩
    · exact .inl e
    · rcases hL x hx with h1 | h1
      · obtain ⟨y, hy, e2⟩ := h1; exact .inr ⟨y, hy, e2.trans e⟩
      · omega, fun o h1 h2 => (k.c o h1 h2).trans (h.c o h1 h2), fun o => (k.f o).trans (h.f o)⟩
theorem cancelF_length (id : Int) : ∀ (l : TL), (cancelF id l).1.length ≤ l.length
  | [] => Nat.le_refl _
  | (i, b) :: l => by
    simp only [cancelF]
    split
    · cases l with
      | nil => simp
      | cons y m => obtain ⟨j, c⟩ := y; simp
    · have := cancelF_length id l
      simp; omega
theorem map_tlOf {L : List (Nat × Int × Int)} {P : Int × Int → Prop} (h : ∀ x ∈ tlOf L, P x) : ∀ x ∈ L, P (x.2.1, x.2.2) := fun x hx => h _ (List.mem_map.2 ⟨x, hx, rfl⟩)
set_option maxRecDepth 100000 in
set_option maxHeartbeats 2000000 in
theorem dadd_any (base qb qo : Nat) (L : List (Nat × Int × Int)) (id t : Int) (w : World) (hq : DQ w base qb qo L) (hb : ∀ x ∈ L, 0 ≤ x.2.2 ∧ x.2.2 ≤ 65536) (hn : L.length ≤ 64) (hb1 : ∀ x ∈ (cancelF id (tlOf L)).1, 0 ≤ x.2 ∧ x.2 ≤ 65536) :
    Calls Try.prog 13 #[.pointer (some ⟨qb, qo, none⟩), .int .i64 id, .int .i64 t] w fun e w' => AddPost base qb qo L id t w e w' := by
  by_cases hg : t < 1 ∨ 65536 < t
  · have HA := hid (show addOk id t (tlOf L) = false by unfold addOk; rw [decide_eq_false (by omega)]; rfl)
    have HF := hid (show addF id t (tlOf L) = tlOf L by unfold addF; rw [HA.out]; rfl)
    have HS := hid (DSave.of_below hq (Below.refl w.heap.size w))
    rcases hg with h | h
    · go_enter Try.func13, Try.ntmps13
      go_wp2
      go_ret
      exact ⟨L, by rw [HA.out]; rfl, hq, HF.out.symm, fun x hx => .inl ⟨x, hx, rfl⟩, HS.out⟩
    · have h1 : decide (t < 1) = false := by simp; omega
      go_enter Try.func13, Try.ntmps13
      go_wp2
      go_ret
      exact ⟨L, by rw [HA.out]; rfl, hq, HF.out.symm, fun x hx => .inl ⟨x, hx, rfl⟩, HS.out⟩
  · have ht1 : 1 ≤ t := by omega
    have ht2 : t ≤ 65536 := by omega
    have d1 : decide (t < 1) = false := by simp; omega
    have d2 : decide (65536 < t) = false := by simp; omega
    have HDU := hid (ddue_any base qb qo L id w hq hb hn)
    have HAO : Hid (addOk id t (tlOf L) = ((dueF id 0 (tlOf L)).isSome || decide (L.length < 64))) := by
      show _ = _
      unfold addOk
      rw [decide_eq_true ⟨ht1, ht2⟩, tlOf_length]; rfl
    have H2 : Hid ((dR2 (dueF id 0 (tlOf L))).2 = (dueF id 0 (tlOf L)).isSome) := by
      show _ = _
      cases dueF id 0 (tlOf L) <;> rfl
    obtain ⟨⟨r1, r2⟩, hr⟩ : ∃ y, dR2 (dueF id 0 (tlOf L)) = y := ⟨_, rfl⟩
    rw [hr] at HDU H2
    rw [← H2.out] at HAO
    dsimp only at HAO
    clear hr hg H2
    go_enter Try.func13, Try.ntmps13
    go_wp2_with fail
    refine HDU.out.mono ?_
    rintro e w1 ⟨rfl, B1⟩
    clear HDU
    have hq1 := hq.below B1
    have hS1 := DSave.of_below hq B1
    have cm := hq1.many
    have key : (r2 = false ∧ 64 ≤ L.length) ∨ (r2 = false ∧ L.length < 64) ∨ r2 = true := by
      cases r2
      · by_cases h : 64 ≤ L.length
        · exact .inl ⟨rfl, h⟩
        · exact .inr (.inl ⟨rfl, by omega⟩)
      · exact .inr (.inr rfl)
    have hlen1 : (L.length : Int) ≤ 64 := by omega
    rcases key with ⟨rfl, hf⟩ | ⟨rfl, hf⟩ | rfl
    · have HA := hid (show addOk id t (tlOf L) = false by rw [HAO.out, decide_eq_false (by omega)]; rfl)
      have HF := hid (show addF id t (tlOf L) = tlOf L by unfold addF; rw [HA.out]; rfl)
      have t3 : decide ((64 : Int) ≤ (L.length : Int)) = true := by simp; omega
      go_wp2
      go_ret
      exact ⟨L, by rw [HA.out]; rfl, hq1, HF.out.symm, fun x hx => .inl ⟨x, hx, rfl⟩, hS1⟩
    · have HA := hid (show addOk id t (tlOf L) = true by rw [HAO.out, decide_eq_true hf]; rfl)
      have t3 : decide ((64 : Int) ≤ (L.length : Int)) = false := by simp; omega
      have HF := hid (show addF id t (tlOf L) = insF id t (cancelF id (tlOf L)).1 by unfold addF; rw [HA.out]; rfl)
      have HC := hid (dcancel_any base qb qo L id w1 hq1 hb hn)
      clear HAO
      go_wp2_with fail
      refine HC.out.mono ?_
      rintro e w2 ⟨L1, rfl, hq2, htl, hsub, hS2⟩
      have hS12 := hS1.trans hS2 fun x hx => .inl ⟨x, hx, rfl⟩
      rw [← htl] at hb1 HF
      have hb2 := map_tlOf hb1
      have hsz2 : w.heap.size ≤ w2.heap.size := hS12.s.size
      have hn1 : L1.length ≤ 64 := by
        have h1 := congrArg List.length htl
        rw [tlOf_length] at h1
        have h2 : ((cancelF id (tlOf L)).1).length ≤ (tlOf L).length := cancelF_length id (tlOf L)
        rw [tlOf_length] at h2
        omega
      obtain ⟨n, hnn⟩ : ∃ n, L1.length = n := ⟨_, rfl⟩
      have HN := hid hnn
      have hn64 : n ≤ 64 := by omega
      have hql := hq2.lt
      clear HC htl hb1 cm hnn hn1 hlen1
      go_wp2
      go_loop [2, 9] (fun tk at_ => ∃ (k pb po : Nat) (u : Int), tk = .int .i64 u ∧ at_ = .pointer (some ⟨pb, po, none⟩) ∧ k ≤ n ∧ 0 ≤ u ∧ u ≤ 65536 ∧ Hid (PosAt qb qo L1 k pb po) ∧ Hid (insL w2.heap.size id t L1 = L1.take k ++ insL w2.heap.size id u (L1.drop k))) (fun _ at_ => n - posV qb L1 at_)
      case atStart => exact ⟨0, qb, qo, t, rfl, rfl, Nat.zero_le _, by omega, ht2, .inl ⟨rfl, rfl, rfl⟩, by show _ = _; simp⟩
      case round =>
        obtain ⟨k, pb, po, u, rfl, rfl, hk, hu0, hu1, HP, HI⟩ := hrel
        obtain ⟨ca, fa⟩ := HP.out.cell hq2
        have hne := HP.out.ne hq2
        have cm := hq2.many
        have fm := hq2.f1
        rw [HN.out] at cm
        by_cases hlt : k < n
        · have hkl : k < L1.length := by have := HN.out; omega
          rw [nextp_drop hkl] at ca
          obtain ⟨t0, t1, t2, tf⟩ := tO_cell (hq2.ch.at_ hkl)
          have hc := hb2 _ (List.getElem_mem hkl)
          have HV := hid (posV_at hq2 HP.out)
          have HP2 := hid (PosAt.next (qb := qb) (qo := qo) hkl)
          have HV2 := hid (posV_at hq2 HP2.out)
          have hpn := HP.out.behind hq2 hkl (Nat.le_refl _)
          have hqn := hq2.nq _ (List.getElem_mem hkl)
          obtain ⟨x, hx⟩ : ∃ x, L1[k] = x := ⟨_, rfl⟩
          have HX := hid hx
          rw [hx] at ca t0 t1 t2 tf hc HP2 HV2 hpn hqn
          obtain ⟨b, i, c⟩ := x
          dsimp only at ca t0 t1 t2 tf hc HP2 HV2 hpn hqn
          clear hx
          by_cases hle : c ≤ u
          · have t4 : decide (c ≤ u) = true := by simpa using hle
            have HI2 := hid (insL_step w2.heap.size id hkl HI.out (by rw [HX.out]; exact hle))
            rw [HX.out] at HI2
            go_wp2
            go_round
            case rel => exact ⟨k + 1, b, 2, u - c, rfl, rfl, by omega, by omega, by omega, HP2, HI2⟩
            case measure => rw [HV.out, HV2.out]; omega
          · have t4 : decide (c ≤ u) = false := by simpa using hle
            have HIA := hid (insL_at w2.heap.size id L1 t u k (by omega) HI.out (fun h => by have h1 : L1[k]'h = (b, i, c) := HX.out; rw [h1]; show u < c; omega))
            have hdr : L1.drop k = (b, i, c) :: L1.drop (k + 1) := by rw [List.drop_eq_getElem_cons hkl, HX.out]
            have hbu : bump u (L1.drop k) = (b, i, c - u) :: L1.drop (k + 1) := by rw [hdr]; rfl
            rw [hbu] at HIA
            have hsp : L1 = L1.take k ++ (b, i, c) :: L1.drop (k + 1) := by rw [← hdr, List.take_append_drop]
            have hbl : b < w2.heap.size := cell_lt t0
            have hall : ∀ x ∈ L1, x.1 < w2.heap.size := hq2.ch.lt
            have hnd := hq2.nd
            rw [hsp] at hnd
            have hnd1 : ((L1.take k).map (·.1) ++ b :: (L1.drop (k + 1)).map (·.1)).Nodup := by simpa using hnd
            have hnb : ¬ w2.heap.size ∈ (L1.take k).map (·.1) ++ b :: (L1.drop (k + 1)).map (·.1) := fun hm => by
              have h2 : w2.heap.size ∈ L1.map (·.1) := by
                have h3 : L1.map (·.1) = (L1.take k).map (·.1) ++ b :: (L1.drop (k + 1)).map (·.1) := by
                  conv => lhs; rw [hsp]
                  simp
                rw [h3]; exact hm
              obtain ⟨x, hx, e⟩ := List.mem_map.1 h2
              have := hall x hx
              omega
            have hnd2 : ((L1.take k ++ (w2.heap.size, id, u) :: (b, i, c - u) :: L1.drop (k + 1)).map (·.1)).Nodup := by
              have h3 : (w2.heap.size :: ((L1.take k).map (·.1) ++ b :: (L1.drop (k + 1)).map (·.1))).Nodup := List.nodup_cons.2 ⟨hnb, hnd1⟩
              have h4 : ((L1.take k).map (·.1) ++ w2.heap.size :: b :: (L1.drop (k + 1)).map (·.1)).Nodup := List.Perm.pairwise List.perm_middle.symm h3 fun h => Ne.symm h
              simpa using h4
            have hch : Ch ((w2.alloc (tO (w2.heap.size, id, u) (some ⟨b, 0, none⟩))).setCell ⟨b, 1, none⟩ (.int .i64 (c - u))) ((w2.heap.size, id, u) :: (b, i, c - u) :: L1.drop (k + 1)) := by
              have h1 := (hq2.ch.drop k).frame (W' := w2.alloc (tO (w2.heap.size, id, u) (some ⟨b, 0, none⟩))) fun x hx => Below.heap_alloc w2 _ x.1 (hall x (List.mem_of_mem_drop hx))
              rw [hdr] at h1
              have h2 := ch_bump h1 (fun y hy e => (List.nodup_cons.1 (List.nodup_append.1 hnd1).2.1).1 (List.mem_map.2 ⟨y, hy, e⟩)) u
              exact ⟨(heap_setCell_other _ _ _ _ (by show w2.heap.size ≠ b; omega)).trans (heap_alloc_new w2 _), h2⟩
            have hsv : Save (fun x => x = b) w2 ((w2.alloc (tO (w2.heap.size, id, u) (some ⟨b, 0, none⟩))).setCell ⟨b, 1, none⟩ (.int .i64 (c - u))) := ((Save.alloc w2 _).mono fun _ h => h.elim).trans (Save.set _ b 1 _) fun _ _ h => h
            have hmem : ∀ x ∈ (w2.heap.size, id, u) :: (b, i, c - u) :: L1.drop (k + 1), (∃ y ∈ L1, y.1 = x.1) ∨ w2.heap.size ≤ x.1 := fun x hx => by
              rcases List.mem_cons.1 hx with rfl | hx
              · exact .inr (Nat.le_refl _)
              · rcases List.mem_cons.1 hx with rfl | hx
                · exact .inl ⟨(b, i, c), by rw [hsp]; simp, rfl⟩
                · exact .inl ⟨x, List.mem_of_mem_drop hx, rfl⟩
            have HR := hid (hq2.relink (by omega) HP.out ((w2.heap.size, id, u) :: (b, i, c - u) :: L1.drop (k + 1)) hsv (fun e => hqn e.symm) (fun x hx e => (List.nodup_append.1 hnd1).2.2 x.1 (List.mem_map.2 ⟨x, hx, rfl⟩) b (by simp) e) hch hnd2
              (fun x hx => by
                rcases hmem x hx with ⟨y, hy, e⟩ | h
                · rw [← e]; exact hq2.nq y hy
                · omega) (fun x hx => by
                rcases hmem x hx with ⟨y, hy, e⟩ | h
                · rw [← e]; exact hq2.low.2 y hy
                · have := hq2.low.1; omega) ((n : Int) + 1) (by have := HN.out; simp; omega))
            have HS := hid (hS12.trans (relink_save hq2 HP.out hsv (fun e => hqn e.symm) (fun d _ e => ⟨(b, i, c), by rw [hsp]; simp, e.symm⟩) (.pointer (some ⟨w2.heap.size, 0, none⟩)) (.int .i64 ((n : Int) + 1))) fun x hx => by obtain ⟨y, hy, e⟩ := hsub x hx; exact .inl ⟨y, hy, e⟩)
            have HM : Hid (∀ x ∈ L1.take k ++ (w2.heap.size, id, u) :: (b, i, c - u) :: L1.drop (k + 1), (∃ y ∈ L, y.1 = x.1) ∨ w.heap.size ≤ x.1) := fun x hx => by
              rcases List.mem_append.1 hx with h | h
              · exact .inl (hsub x (List.mem_of_mem_take h))
              · rcases hmem x h with ⟨y, hy, e⟩ | h
                · obtain ⟨z, hz, e2⟩ := hsub y hy; exact .inl ⟨z, hz, e2.trans e⟩
                · exact .inr (by omega)
            have HT : Hid (tlOf (L1.take k ++ (w2.heap.size, id, u) :: (b, i, c - u) :: L1.drop (k + 1)) = addF id t (tlOf L)) := by
              show _ = _
              rw [HF.out, ← HIA.out, insL_tl]
            have hpl : pb < w2.heap.size := cell_lt ca
            have ep : ∀ v, (w2.setCell ⟨b, 1, none⟩ v).cell? ⟨pb, po, none⟩ = some (.pointer (some ⟨b, 0, none⟩)) := fun v => (cset_far (Ne.symm hpn)).trans ca
            have em : ∀ v v', ((w2.setCell ⟨b, 1, none⟩ v).setCell ⟨pb, po, none⟩ v').cell? ⟨qb, qo + 1, none⟩ = some (.int .i64 (n : Int)) := fun v v' => (cset_ne hne).trans ((cset_far hqn).trans cm)
            rw [World.setCell_alloc_past _ _ _ _ hbl, World.setCell_alloc_past _ _ _ _ (by simpa using hpl), World.setCell_alloc_past _ _ _ _ (by simpa using hql)] at HR HS
            clear hsp hdr hbu hnd hnd1 hnd2 hnb hch hsv hmem hall hsub hne HX HIA HI HV HV2 HP2
            go_wp2
            go_ret
            exact ⟨_, by rw [HA.out]; rfl, HR.out, HT.out, HM.out, HS.out⟩
        · obtain rfl : k = n := by omega
          rw [nextp_end (by have := HN.out; omega)] at ca
          have hkL : k = L1.length := HN.out.symm
          have HIA := hid (insL_at w2.heap.size id L1 t u k (by omega) HI.out (fun h => by omega))
          have hdr : L1.drop k = [] := List.drop_eq_nil_of_le (by omega)
          rw [hdr] at HIA
          have hall : ∀ x ∈ L1, x.1 < w2.heap.size := hq2.ch.lt
          have htk : L1.take k = L1 := List.take_of_length_le (by omega)
          have hnd2 : ((L1.take k ++ [(w2.heap.size, id, u)]).map (·.1)).Nodup := by
            rw [htk, List.map_append]
            refine List.nodup_append.2 ⟨hq2.nd, by simp, fun x hx y hy e => ?_⟩
            obtain ⟨z, hz, rfl⟩ := List.mem_map.1 hx
            simp only [List.map_cons, List.map_nil, List.mem_singleton] at hy
            have := hall z hz
            omega
          have HR := hid (hq2.relink (by omega) HP.out [(w2.heap.size, id, u)] (Save.alloc w2 (tO (w2.heap.size, id, u) none)) (fun h => h) (fun _ _ h => h) ⟨heap_alloc_new w2 _, trivial⟩ hnd2
            (fun x hx => by simp only [List.mem_singleton] at hx; subst hx; show w2.heap.size ≠ qb; omega) (fun x hx => by simp only [List.mem_singleton] at hx; subst hx; show base ≤ w2.heap.size; have := hq2.low.1; omega) ((k : Int) + 1) (by rw [htk]; simp; omega))
          have HS := hid (hS12.trans (relink_save hq2 HP.out (Save.alloc w2 (tO (w2.heap.size, id, u) none)) (fun h => h) (fun d _ e => e.elim) (.pointer (some ⟨w2.heap.size, 0, none⟩)) (.int .i64 ((k : Int) + 1))) fun x hx => by obtain ⟨y, hy, e⟩ := hsub x hx; exact .inl ⟨y, hy, e⟩)
          have HM : Hid (∀ x ∈ L1.take k ++ [(w2.heap.size, id, u)], (∃ y ∈ L, y.1 = x.1) ∨ w.heap.size ≤ x.1) := fun x hx => by
            rcases List.mem_append.1 hx with h | h
            · exact .inl (hsub x (List.mem_of_mem_take h))
            · simp only [List.mem_singleton] at h; subst h; exact .inr hsz2
          have HT : Hid (tlOf (L1.take k ++ [(w2.heap.size, id, u)]) = addF id t (tlOf L)) := by
            show _ = _
            rw [HF.out, ← insL_tl w2.heap.size, HIA.out]; rfl
          have hpl : pb < w2.heap.size := cell_lt ca
          have em : ∀ v', (w2.setCell ⟨pb, po, none⟩ v').cell? ⟨qb, qo + 1, none⟩ = some (.int .i64 (k : Int)) := fun v' => (cset_ne hne).trans cm
          rw [World.setCell_alloc_past _ _ _ _ hpl, World.setCell_alloc_past _ _ _ _ (by simpa using hql)] at HR HS
          clear hdr hnd2 hall hsub hne HIA HI htk hkL
          go_wp2
          go_ret
          exact ⟨_, by rw [HA.out]; rfl, HR.out, HT.out, HM.out, HS.out⟩
    · have HA := hid (show addOk id t (tlOf L) = true by rw [HAO.out]; rfl)
      have HF := hid (show addF id t (tlOf L) = insF id t (cancelF id (tlOf L)).1 by unfold addF; rw [HA.out]; rfl)
      have HC := hid (dcancel_any base qb qo L id w1 hq1 hb hn)
      clear HAO
      go_wp2_with fail
      refine HC.out.mono ?_
      rintro e w2 ⟨L1, rfl, hq2, htl, hsub, hS2⟩
      have hS12 := hS1.trans hS2 fun x hx => .inl ⟨x, hx, rfl⟩
      rw [← htl] at hb1 HF
      have hb2 := map_tlOf hb1
      have hsz2 : w.heap.size ≤ w2.heap.size := hS12.s.size
      have hn1 : L1.length ≤ 64 := by
        have h1 := congrArg List.length htl
        rw [tlOf_length] at h1
        have h2 : ((cancelF id (tlOf L)).1).length ≤ (tlOf L).length := cancelF_length id (tlOf L)
        rw [tlOf_length] at h2
        omega
      obtain ⟨n, hnn⟩ : ∃ n, L1.length = n := ⟨_, rfl⟩
      have HN := hid hnn
      have hn64 : n ≤ 64 := by omega
      have hql := hq2.lt
      clear HC htl hb1 cm hnn hn1 hlen1
      go_wp2
      go_loop [2, 9] (fun tk at_ => ∃ (k pb po : Nat) (u : Int), tk = .int .i64 u ∧ at_ = .pointer (some ⟨pb, po, none⟩) ∧ k ≤ n ∧ 0 ≤ u ∧ u ≤ 65536 ∧ Hid (PosAt qb qo L1 k pb po) ∧ Hid (insL w2.heap.size id t L1 = L1.take k ++ insL w2.heap.size id u (L1.drop k))) (fun _ at_ => n - posV qb L1 at_)
      case atStart => exact ⟨0, qb, qo, t, rfl, rfl, Nat.zero_le _, by omega, ht2, .inl ⟨rfl, rfl, rfl⟩, by show _ = _; simp⟩
      case round =>
        obtain ⟨k, pb, po, u, rfl, rfl, hk, hu0, hu1, HP, HI⟩ := hrel
        obtain ⟨ca, fa⟩ := HP.out.cell hq2
        have hne := HP.out.ne hq2
        have cm := hq2.many
        have fm := hq2.f1
        rw [HN.out] at cm
        by_cases hlt : k < n
        · have hkl : k < L1.length := by have := HN.out; omega
          rw [nextp_drop hkl] at ca
          obtain ⟨t0, t1, t2, tf⟩ := tO_cell (hq2.ch.at_ hkl)
          have hc := hb2 _ (List.getElem_mem hkl)
          have HV := hid (posV_at hq2 HP.out)
          have HP2 := hid (PosAt.next (qb := qb) (qo := qo) hkl)
          have HV2 := hid (posV_at hq2 HP2.out)
          have hpn := HP.out.behind hq2 hkl (Nat.le_refl _)
          have hqn := hq2.nq _ (List.getElem_mem hkl)
          obtain ⟨x, hx⟩ : ∃ x, L1[k] = x := ⟨_, rfl⟩
          have HX := hid hx
          rw [hx] at ca t0 t1 t2 tf hc HP2 HV2 hpn hqn
          obtain ⟨b, i, c⟩ := x
          dsimp only at ca t0 t1 t2 tf hc HP2 HV2 hpn hqn
          clear hx
          by_cases hle : c ≤ u
          · have t4 : decide (c ≤ u) = true := by simpa using hle
            have HI2 := hid (insL_step w2.heap.size id hkl HI.out (by rw [HX.out]; exact hle))
            rw [HX.out] at HI2
            go_wp2
            go_round
            case rel => exact ⟨k + 1, b, 2, u - c, rfl, rfl, by omega, by omega, by omega, HP2, HI2⟩
            case measure => rw [HV.out, HV2.out]; omega
          · have t4 : decide (c ≤ u) = false := by simpa using hle
            have HIA := hid (insL_at w2.heap.size id L1 t u k (by omega) HI.out (fun h => by have h1 : L1[k]'h = (b, i, c) := HX.out; rw [h1]; show u < c; omega))
            have hdr : L1.drop k = (b, i, c) :: L1.drop (k + 1) := by rw [List.drop_eq_getElem_cons hkl, HX.out]
            have hbu : bump u (L1.drop k) = (b, i, c - u) :: L1.drop (k + 1) := by rw [hdr]; rfl
            rw [hbu] at HIA
            have hsp : L1 = L1.take k ++ (b, i, c) :: L1.drop (k + 1) := by rw [← hdr, List.take_append_drop]
            have hbl : b < w2.heap.size := cell_lt t0
            have hall : ∀ x ∈ L1, x.1 < w2.heap.size := hq2.ch.lt
            have hnd := hq2.nd
            rw [hsp] at hnd
            have hnd1 : ((L1.take k).map (·.1) ++ b :: (L1.drop (k + 1)).map (·.1)).Nodup := by simpa using hnd
            have hnb : ¬ w2.heap.size ∈ (L1.take k).map (·.1) ++ b :: (L1.drop (k + 1)).map (·.1) := fun hm => by
              have h2 : w2.heap.size ∈ L1.map (·.1) := by
                have h3 : L1.map (·.1) = (L1.take k).map (·.1) ++ b :: (L1.drop (k + 1)).map (·.1) := by
                  conv => lhs; rw [hsp]
                  simp
                rw [h3]; exact hm
              obtain ⟨x, hx, e⟩ := List.mem_map.1 h2
              have := hall x hx
              omega
            have hnd2 : ((L1.take k ++ (w2.heap.size, id, u) :: (b, i, c - u) :: L1.drop (k + 1)).map (·.1)).Nodup := by
              have h3 : (w2.heap.size :: ((L1.take k).map (·.1) ++ b :: (L1.drop (k + 1)).map (·.1))).Nodup := List.nodup_cons.2 ⟨hnb, hnd1⟩
              have h4 : ((L1.take k).map (·.1) ++ w2.heap.size :: b :: (L1.drop (k + 1)).map (·.1)).Nodup := List.Perm.pairwise List.perm_middle.symm h3 fun h => Ne.symm h
              simpa using h4
            have hch : Ch ((w2.alloc (tO (w2.heap.size, id, u) (some ⟨b, 0, none⟩))).setCell ⟨b, 1, none⟩ (.int .i64 (c - u))) ((w2.heap.size, id, u) :: (b, i, c - u) :: L1.drop (k + 1)) := by
              have h1 := (hq2.ch.drop k).frame (W' := w2.alloc (tO (w2.heap.size, id, u) (some ⟨b, 0, none⟩))) fun x hx => Below.heap_alloc w2 _ x.1 (hall x (List.mem_of_mem_drop hx))
              rw [hdr] at h1
              have h2 := ch_bump h1 (fun y hy e => (List.nodup_cons.1 (List.nodup_append.1 hnd1).2.1).1 (List.mem_map.2 ⟨y, hy, e⟩)) u
              exact ⟨(heap_setCell_other _ _ _ _ (by show w2.heap.size ≠ b; omega)).trans (heap_alloc_new w2 _), h2⟩
            have hsv : Save (fun x => x = b) w2 ((w2.alloc (tO (w2.heap.size, id, u) (some ⟨b, 0, none⟩))).setCell ⟨b, 1, none⟩ (.int .i64 (c - u))) := ((Save.alloc w2 _).mono fun _ h => h.elim).trans (Save.set _ b 1 _) fun _ _ h => h
            have hmem : ∀ x ∈ (w2.heap.size, id, u) :: (b, i, c - u) :: L1.drop (k + 1), (∃ y ∈ L1, y.1 = x.1) ∨ w2.heap.size ≤ x.1 := fun x hx => by
              rcases List.mem_cons.1 hx with rfl | hx
              · exact .inr (Nat.le_refl _)
              · rcases List.mem_cons.1 hx with rfl | hx
                · exact .inl ⟨(b, i, c), by rw [hsp]; simp, rfl⟩
                · exact .inl ⟨x, List.mem_of_mem_drop hx, rfl⟩
            have HR := hid (hq2.relink (by omega) HP.out ((w2.heap.size, id, u) :: (b, i, c - u) :: L1.drop (k + 1)) hsv (fun e => hqn e.symm) (fun x hx e => (List.nodup_append.1 hnd1).2.2 x.1 (List.mem_map.2 ⟨x, hx, rfl⟩) b (by simp) e) hch hnd2
              (fun x hx => by
                rcases hmem x hx with ⟨y, hy, e⟩ | h
                · rw [← e]; exact hq2.nq y hy
                · omega) (fun x hx => by
                rcases hmem x hx with ⟨y, hy, e⟩ | h
                · rw [← e]; exact hq2.low.2 y hy
                · have := hq2.low.1; omega) ((n : Int) + 1) (by have := HN.out; simp; omega))
            have HS := hid (hS12.trans (relink_save hq2 HP.out hsv (fun e => hqn e.symm) (fun d _ e => ⟨(b, i, c), by rw [hsp]; simp, e.symm⟩) (.pointer (some ⟨w2.heap.size, 0, none⟩)) (.int .i64 ((n : Int) + 1))) fun x hx => by obtain ⟨y, hy, e⟩ := hsub x hx; exact .inl ⟨y, hy, e⟩)
            have HM : Hid (∀ x ∈ L1.take k ++ (w2.heap.size, id, u) :: (b, i, c - u) :: L1.drop (k + 1), (∃ y ∈ L, y.1 = x.1) ∨ w.heap.size ≤ x.1) := fun x hx => by
              rcases List.mem_append.1 hx with h | h
              · exact .inl (hsub x (List.mem_of_mem_take h))
              · rcases hmem x h with ⟨y, hy, e⟩ | h
                · obtain ⟨z, hz, e2⟩ := hsub y hy; exact .inl ⟨z, hz, e2.trans e⟩
                · exact .inr (by omega)
            have HT : Hid (tlOf (L1.take k ++ (w2.heap.size, id, u) :: (b, i, c - u) :: L1.drop (k + 1)) = addF id t (tlOf L)) := by
              show _ = _
              rw [HF.out, ← HIA.out, insL_tl]
            have hpl : pb < w2.heap.size := cell_lt ca
            have ep : ∀ v, (w2.setCell ⟨b, 1, none⟩ v).cell? ⟨pb, po, none⟩ = some (.pointer (some ⟨b, 0, none⟩)) := fun v => (cset_far (Ne.symm hpn)).trans ca
            have em : ∀ v v', ((w2.setCell ⟨b, 1, none⟩ v).setCell ⟨pb, po, none⟩ v').cell? ⟨qb, qo + 1, none⟩ = some (.int .i64 (n : Int)) := fun v v' => (cset_ne hne).trans ((cset_far hqn).trans cm)
            rw [World.setCell_alloc_past _ _ _ _ hbl, World.setCell_alloc_past _ _ _ _ (by simpa using hpl), World.setCell_alloc_past _ _ _ _ (by simpa using hql)] at HR HS
            clear hsp hdr hbu hnd hnd1 hnd2 hnb hch hsv hmem hall hsub hne HX HIA HI HV HV2 HP2
            go_wp2
            go_ret
            exact ⟨_, by rw [HA.out]; rfl, HR.out, HT.out, HM.out, HS.out⟩
        · obtain rfl : k = n := by omega
          rw [nextp_end (by have := HN.out; omega)] at ca
          have hkL : k = L1.length := HN.out.symm
          have HIA := hid (insL_at w2.heap.size id L1 t u k (by omega) HI.out (fun h => by omega))
          have hdr : L1.drop k = [] := List.drop_eq_nil_of_le (by omega)
          rw [hdr] at HIA
          have hall : ∀ x ∈ L1, x.1 < w2.heap.size := hq2.ch.lt
          have htk : L1.take k = L1 := List.take_of_length_le (by omega)
          have hnd2 : ((L1.take k ++ [(w2.heap.size, id, u)]).map (·.1)).Nodup := by
            rw [htk, List.map_append]
            refine List.nodup_append.2 ⟨hq2.nd, by simp, fun x hx y hy e => ?_⟩
            obtain ⟨z, hz, rfl⟩ := List.mem_map.1 hx
            simp only [List.map_cons, List.map_nil, List.mem_singleton] at hy
            have := hall z hz
            omega
          have HR := hid (hq2.relink (by omega) HP.out [(w2.heap.size, id, u)] (Save.alloc w2 (tO (w2.heap.size, id, u) none)) (fun h => h) (fun _ _ h => h) ⟨heap_alloc_new w2 _, trivial⟩ hnd2
            (fun x hx => by simp only [List.mem_singleton] at hx; subst hx; show w2.heap.size ≠ qb; omega) (fun x hx => by simp only [List.mem_singleton] at hx; subst hx; show base ≤ w2.heap.size; have := hq2.low.1; omega) ((k : Int) + 1) (by rw [htk]; simp; omega))
          have HS := hid (hS12.trans (relink_save hq2 HP.out (Save.alloc w2 (tO (w2.heap.size, id, u) none)) (fun h => h) (fun d _ e => e.elim) (.pointer (some ⟨w2.heap.size, 0, none⟩)) (.int .i64 ((k : Int) + 1))) fun x hx => by obtain ⟨y, hy, e⟩ := hsub x hx; exact .inl ⟨y, hy, e⟩)
          have HM : Hid (∀ x ∈ L1.take k ++ [(w2.heap.size, id, u)], (∃ y ∈ L, y.1 = x.1) ∨ w.heap.size ≤ x.1) := fun x hx => by
            rcases List.mem_append.1 hx with h | h
            · exact .inl (hsub x (List.mem_of_mem_take h))
            · simp only [List.mem_singleton] at h; subst h; exact .inr hsz2
          have HT : Hid (tlOf (L1.take k ++ [(w2.heap.size, id, u)]) = addF id t (tlOf L)) := by
            show _ = _
            rw [HF.out, ← insL_tl w2.heap.size, HIA.out]; rfl
          have hpl : pb < w2.heap.size := cell_lt ca
          have em : ∀ v', (w2.setCell ⟨pb, po, none⟩ v').cell? ⟨qb, qo + 1, none⟩ = some (.int .i64 (k : Int)) := fun v' => (cset_ne hne).trans cm
          rw [World.setCell_alloc_past _ _ _ _ hpl, World.setCell_alloc_past _ _ _ _ (by simpa using hql)] at HR HS
          clear hdr hnd2 hall hsub hne HIA HI htk hkL
          go_wp2
          go_ret
          exact ⟨_, by rw [HA.out]; rfl, HR.out, HT.out, HM.out, HS.out⟩
end Go.Proofs.Ytdccpbnknfffaaa
