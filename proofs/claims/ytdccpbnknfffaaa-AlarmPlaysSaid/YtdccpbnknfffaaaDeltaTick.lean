/-
  Contract of Tick.
-/
import Derived.Test.YtdccpbnknfffaaaDeltaAdd
import Derived.ProofKit
namespace Go.Proofs.Ytdccpbnknfffaaa
open Go.RowKit
def iv (xs : List Int) : List Value := xs.map (Value.int .i64 ·)
theorem iv_append (xs ys : List Int) : iv (xs ++ ys) = iv xs ++ iv ys := List.map_append ..
theorem infoN : (Try.prog.info? 3).map (fun i => (i.zero, i.size, i.bytes)) = some (some (.int .i64 0), 1, 8) := by kernel_rfl
def lenV : Value → Nat
  | .slice _ n _ => n
  | _ => 0
theorem own_len {w : World} {b s n : Nat} {e : TypeId} {v : Value} {xs : List Value} (h : w.ownsRow b e s v n xs) : lenV v = n := by
  rcases h.2 with ⟨rfl, h0⟩ | ⟨g, cap, cur, rfl, _⟩
  · exact h0.symm
  · rfl
theorem own_save {W W' : World} {S : Nat → Prop} {b n s : Nat} {e : TypeId} {u : Value} {ys : List Value} (h : W.ownsRow b e s u n ys) (hs : Save S W W') (hn : ∀ g, u.ownBlock = some g → ¬ S g) : W'.ownsRow b e s u n ys := by
  obtain ⟨h1, h2 | ⟨g, cap, cur, rfl, hb, hg, hr⟩⟩ := h
  · exact ⟨h1, .inl h2⟩
  · exact ⟨h1, .inr ⟨g, cap, cur, rfl, hb, (hs.block g (Array.getElem?_eq_some_iff.1 hg).1 (hn g rfl)).trans hg, hr⟩⟩
theorem DQ.save {W W' : World} {base qb qo : Nat} {L : List (Nat × Int × Int)} {S : Nat → Prop} (h : DQ W base qb qo L) (hs : Save S W W') (hq : ¬ S qb) (hn : ∀ x ∈ L, ¬ S x.1) : DQ W' base qb qo L := by
  have hqb : W'.heap[qb]? = W.heap[qb]? := hs.block qb h.lt hq
  have cq : ∀ o, W'.cell? ⟨qb, o, none⟩ = W.cell? ⟨qb, o, none⟩ := fun o => World.cell?_of_block (w := W) (w' := W') (a := ⟨qb, o, none⟩) hqb
  have fq : ∀ o, W'.frozen? ⟨qb, o, none⟩ = W.frozen? ⟨qb, o, none⟩ := fun o => by simp [World.frozen?, hqb]
  exact ⟨(cq _).trans h.first, (cq _).trans h.many, (fq _).trans h.f0, (fq _).trans h.f1, h.ch.frame fun x hx => hs.block _ (h.ch.lt x hx) (hn x hx), h.nd, h.nq, h.low⟩
theorem DSave.then {a b c : World} {qb qo : Nat} {L : List (Nat × Int × Int)} {S : Nat → Prop} (h : DSave qb qo L a b) (hlt : qb < a.heap.size) (hs : Save S b c) (hn : ∀ j, j < a.heap.size → ¬ S j) : DSave qb qo L a c := by
  have hqb : c.heap[qb]? = b.heap[qb]? := hs.block qb (Nat.lt_of_lt_of_le hlt h.s.size) (hn _ hlt)
  exact ⟨h.s.trans hs fun i hi hS => (hn i hi hS).elim, fun o h1 h2 => (World.cell?_of_block (w := b) (w' := c) (a := ⟨qb, o, none⟩) hqb).trans (h.c o h1 h2), fun o => by
    have : c.frozen? ⟨qb, o, none⟩ = b.frozen? ⟨qb, o, none⟩ := by simp [World.frozen?, hqb]
    exact this.trans (h.f o)⟩
theorem DQ.bump1 {W : World} {base qb qo : Nat} {b : Nat} {i c : Int} {l : List (Nat × Int × Int)} (h : DQ W base qb qo ((b, i, c) :: l)) (t : Int) : DQ (W.setCell ⟨b, 1, none⟩ (.int .i64 (c - t))) base qb qo ((b, i, c - t) :: l) ∧ DSave qb qo ((b, i, c) :: l) W (W.setCell ⟨b, 1, none⟩ (.int .i64 (c - t))) := by
  have hne : qb ≠ b := fun e => h.nq (b, i, c) (by simp) e.symm
  have hqb : (W.setCell ⟨b, 1, none⟩ (.int .i64 (c - t))).heap[qb]? = W.heap[qb]? := heap_setCell_other _ _ _ _ hne
  have cq : ∀ o, (W.setCell ⟨b, 1, none⟩ (.int .i64 (c - t))).cell? ⟨qb, o, none⟩ = W.cell? ⟨qb, o, none⟩ := fun o => World.cell?_of_block (w := W) (a := ⟨qb, o, none⟩) hqb
  have fq : ∀ o, (W.setCell ⟨b, 1, none⟩ (.int .i64 (c - t))).frozen? ⟨qb, o, none⟩ = W.frozen? ⟨qb, o, none⟩ := fun o => by simp [World.frozen?, hqb]
  have hnd := h.nd
  have hch := ch_bump h.ch (fun y hy e => (List.nodup_cons.1 (by simpa using hnd : (b :: l.map (·.1)).Nodup)).1 (List.mem_map.2 ⟨y, hy, e⟩)) t
  refine ⟨⟨(cq _).trans h.first, (cq _).trans h.many, (fq _).trans h.f0, (fq _).trans h.f1, hch, by simpa using hnd, fun x hx => ?_, h.low.1, fun x hx => ?_⟩, (Save.set W b 1 _).mono fun k e => .inr ⟨(b, i, c), by simp, e.symm⟩, fun o _ _ => cq o, fq⟩
  · rcases List.mem_cons.1 hx with rfl | hx
    · exact Ne.symm hne
    · exact h.nq x (by simp [hx])
  · rcases List.mem_cons.1 hx with rfl | hx
    · exact h.low.2 (b, i, c) (by simp)
    · exact h.low.2 x (by simp [hx])
theorem DQ.pop {W : World} {base qb qo : Nat} {x : Nat × Int × Int} {l : List (Nat × Int × Int)} (h : DQ W base qb qo (x :: l)) (n : Int) (hn : n = (l.length : Int)) : DQ ((W.setCell ⟨qb, qo, none⟩ (.pointer (nextp l))).setCell ⟨qb, qo + 1, none⟩ (.int .i64 n)) base qb qo l ∧ DSave qb qo (x :: l) W ((W.setCell ⟨qb, qo, none⟩ (.pointer (nextp l))).setCell ⟨qb, qo + 1, none⟩ (.int .i64 n)) := by
  have h1 := h.relink (k := 0) (Nat.zero_le _) (.inl ⟨rfl, rfl, rfl⟩) l (Save.refl (fun _ => False) W) (fun h => h) (fun _ _ h => h) h.ch.2 (by have := h.nd; simp only [List.map_cons] at this; simpa using (List.nodup_cons.1 this).2) (fun y hy => h.nq y (by simp [hy])) (fun y hy => h.low.2 y (by simp [hy])) n (by simpa using hn)
  exact ⟨by simpa using h1, relink_save h (.inl ⟨rfl, rfl, rfl⟩) (Save.refl (fun _ => False) W) (fun h => h) (fun _ _ h => h.elim) _ _⟩
def TickPost (base qb qo : Nat) (L : List (Nat × Int × Int)) (w : World) (e : Ending) (w' : World) : Prop :=
  ∃ (L' : List (Nat × Int × Int)) (v : Value), e = .returned v ∧ w'.ownsRow w.heap.size 3 1 v (tickF (tlOf L)).1.length (iv (tickF (tlOf L)).1) ∧ DQ w' base qb qo L' ∧ tlOf L' = (tickF (tlOf L)).2 ∧ (∀ x ∈ L', ∃ y ∈ L, y.1 = x.1) ∧ DSave qb qo L w w'
set_option maxRecDepth 100000 in
set_option maxHeartbeats 2000000 in
theorem dtick_any (base qb qo : Nat) (L : List (Nat × Int × Int)) (w : World) (hq : DQ w base qb qo L) (hb : ∀ x ∈ L, 0 ≤ x.2.2 ∧ x.2.2 ≤ 65536) (hn : L.length ≤ 64) :
    Calls Try.prog 10 #[.pointer (some ⟨qb, qo, none⟩)] w fun e w' => TickPost base qb qo L w e w' := by
  obtain ⟨i0, hi, hz0, hz1, hz2⟩ := info_parts infoN
  cases L with
  | nil =>
    have c0 : w.cell? ⟨qb, qo, none⟩ = some (.pointer none) := hq.first
    have HS := hid (DSave.of_below hq (Below.refl w.heap.size w))
    have HQ := hid hq
    clear hq hb
    go_enter Try.func10, Try.ntmps10
    go_wp2
    go_ret
    exact ⟨[], _, rfl, World.ownsRow_nil _ _ _ _, HQ.out, rfl, fun x hx => (by cases hx), HS.out⟩
  | cons x0 l0 =>
    obtain ⟨b0, j0, c0⟩ := x0
    have f0 : w.cell? ⟨qb, qo, none⟩ = some (.pointer (some ⟨b0, 0, none⟩)) := hq.first
    obtain ⟨_, t1, _, tf⟩ := tO_cell hq.ch.1
    have tf1 := tf 1
    have hc0 := hb (b0, j0, c0) (by simp)
    dsimp only at t1 tf1 hc0
    obtain ⟨hq1, hs1⟩ := hq.bump1 1
    obtain ⟨L1, hL1⟩ : ∃ L1, (b0, j0, c0 - 1) :: l0 = L1 := ⟨_, rfl⟩
    have hsub : ∀ x ∈ L1, ∃ y ∈ (b0, j0, c0) :: l0, y.1 = x.1 := fun x hx => by
      rw [← hL1] at hx
      rcases List.mem_cons.1 hx with rfl | hx
      · exact ⟨(b0, j0, c0), by simp, rfl⟩
      · exact ⟨x, by simp [hx], rfl⟩
    have hb1 : ∀ x ∈ L1, -1 ≤ x.2.2 ∧ x.2.2 ≤ 65536 := fun x hx => by
      rw [← hL1] at hx
      rcases List.mem_cons.1 hx with rfl | hx
      · show -1 ≤ c0 - 1 ∧ c0 - 1 ≤ 65536; omega
      · have := hb x (by simp [hx]); omega
    have hT : tickF (tlOf ((b0, j0, c0) :: l0)) = popF (tlOf L1) := by rw [← hL1]; rfl
    have hT2 := popF_zeros L1
    have HT := hid (hT.trans hT2)
    have hn1 : L1.length ≤ 64 := by rw [← hL1]; simpa using hn
    rw [hL1] at hq1
    have hqlt := hq.lt
    have hlts : ∀ x ∈ L1, x.1 < w.heap.size := fun x hx => by obtain ⟨y, hy, e⟩ := hsub x hx; rw [← e]; exact hq.ch.lt y hy
    obtain ⟨L, hL⟩ : ∃ L, (b0, j0, c0) :: l0 = L := ⟨_, rfl⟩
    rw [hL] at hs1 hsub HT ⊢
    obtain ⟨n, hnn⟩ : ∃ n, L1.length = n := ⟨_, rfl⟩
    have HN := hid hnn
    have hn64 : n ≤ 64 := by omega
    clear hq hb hn tf hT hT2 hL hL1 hn1 hnn
    go_enter Try.func10, Try.ntmps10
    go_wp2
    go_loopw [3] (fun v wr => ∃ k : Nat, k ≤ n ∧ Hid (zeros L1 = k + zeros (L1.drop k)) ∧ wr.ownsRow w.heap.size 3 1 v k (iv ((L1.take k).map fun x => x.2.1)) ∧ DQ wr base qb qo (L1.drop k) ∧ DSave qb qo L w wr) (fun v _ => n - lenV v)
    case atStart => exact ⟨0, Nat.zero_le _, by show _ = _; simp, World.ownsRow_nil _ _ _ _, hq1, hs1⟩
    case round =>
      clear hq1 hs1 f0 t1 tf1 hc0
      obtain ⟨k, hk, HZ, hown, hqk, hsk⟩ := hrel
      by_cases hlt : k < n
      · have hkl : k < L1.length := by have := HN.out; omega
        have hc := hb1 _ (List.getElem_mem hkl)
        have HTK := hid (List.take_succ_eq_append_getElem hkl)
        have HZS := hid (fun (h : (L1[k]).2.2 = 0) => zeros_step hkl HZ.out h)
        have HZT := hid (fun (h : (L1[k]).2.2 ≠ 0) => zeros_stop HZ.out (fun _ => h) (by omega))
        have hdr := List.drop_eq_getElem_cons hkl
        have hbl := hlts _ (List.getElem_mem hkl)
        obtain ⟨x, hx⟩ : ∃ x, L1[k] = x := ⟨_, rfl⟩
        rw [hx] at hc HTK HZS HZT hdr hbl
        obtain ⟨b, i, c⟩ := x
        dsimp only at hc HZS HZT hbl
        rw [hdr] at hqk
        have cf : wr.cell? ⟨qb, qo, none⟩ = some (.pointer (some ⟨b, 0, none⟩)) := hqk.first
        obtain ⟨t0, t1, t2, tf⟩ := tO_cell hqk.ch.1
        dsimp only at t0 t1 t2
        clear tf hx
        by_cases h0 : c = 0
        · subst h0
          have HQK := hid hqk
          have hsz := hid hsk.s.size
          have hown1 := hown.alloc (Obj.cells #[Value.int .i64 i] 3)
          have hnews : ∀ (j : Nat) (u : Value), (iv [i])[j]? = some u → (wr.alloc (Obj.cells #[Value.int .i64 i] 3)).cell? ((⟨wr.heap.size, 0, none⟩ : Addr).add j) = some u := fun j u hj => by
            rw [add_off, Nat.zero_add, World.cell?_alloc_at _ _ _ _ rfl]
            rw [show iv [i] = [Value.int .i64 i] by rfl] at hj
            simpa using hj
          have hszA : w.heap.size ≤ (wr.alloc (Obj.cells #[Value.int .i64 i] 3)).heap.size := by have := hsz.out; simp; omega
          have HZ2 := hid (HZS.out rfl)
          have HTL : Hid (iv ((L1.take (k + 1)).map fun x => x.2.1) = iv ((L1.take k).map fun x => x.2.1) ++ iv [i]) := by
            show _ = _
            rw [HTK.out, List.map_append, iv_append]; rfl
          have HLV := hid (own_len hown)
          have HDR : Hid (∀ x ∈ (b, i, (0 : Int)) :: L1.drop (k + 1), x.1 < w.heap.size) := fun x hx => by
            rw [← hdr] at hx
            exact hlts x (List.mem_of_mem_drop hx)
          have hge : ∀ j, u3.ownBlock = some j → w.heap.size ≤ j := fun j hj => (hown1.lt j hj).1
          have HSB : Hid (∀ x ∈ (b, i, (0 : Int)) :: L1.drop (k + 1), ∃ y ∈ L, y.1 = x.1) := fun x hx => by
            rw [← hdr] at hx
            exact hsub x (List.mem_of_mem_drop hx)
          have HSK := hid hsk
          have hlk : ((L1.drop (k + 1)).length : Int) = (n : Int) - 1 - (k : Int) := by have := HN.out; rw [List.length_drop]; omega
          obtain ⟨R, hR⟩ : ∃ R, L1.drop (k + 1) = R := ⟨_, rfl⟩
          have HRR := hid hR
          rw [hR] at HQK HDR HSB t2 hlk
          clear hqk HZS HZT HTK hdr hsk hR
          go_wp2_with (
            at_builtin
            refine wpList_append_own _ rfl _ _ 33 rfl w.heap.size 3 i0 (.int .i64 0) 1 8 Try.underlying33 hi hz0 hz1 hz2 rfl (by decide) u3 k _ rfl hown1 ⟨wr.heap.size, 0, none⟩ 1 1 (iv [i]) rfl (by simp [iv]) hnews (by simp [Value.oneCell', iv]) (by unfold maxLen; omega) (by omega) hszA ?_
            intro v' w2 hown2 hgrow _
            have hsv : Save (fun j => u3.ownBlock = some j) wr w2 := ((Save.alloc wr _).mono fun _ h => h.elim).trans (Save.of_grown hgrow) fun _ _ h => h
            have hq2 := HQK.out.save hsv (fun h => by have := hge _ h; omega) (fun x hx h => by
              have := hge _ h
              have := HDR.out x hx
              omega)
            have hs2 := hid (HSK.out.then hqlt hsv fun j hj h => by have := hge _ h; omega)
            have d0 : w2.cell? ⟨qb, qo, none⟩ = some (.pointer (some ⟨b, 0, none⟩)) := hq2.first
            have d1 : w2.cell? ⟨qb, qo + 1, none⟩ = some (.int .i64 ((n : Int) - k)) := by
              rw [hq2.many]
              congr 2
              simp only [List.length_cons]
              omega
            have g0 := hq2.f0
            have g1 := hq2.f1
            have d2 := (tO_cell hq2.ch.1).2.2.1
            have em : ∀ v', (w2.setCell ⟨qb, qo, none⟩ v').cell? ⟨qb, qo + 1, none⟩ = some (.int .i64 ((n : Int) - k)) := fun v' => (cset_ne (by intro e; cases e)).trans d1
            have HQ3 := hid (hq2.pop ((n : Int) - k - 1) (by omega))
            have hown2 := hid hown2
            dsimp only at d2
            clear hown1 hown hgrow hq2 hsv hnews HQK HSK hszA t0 t1 t2 cf)
          go_roundw
          case rel =>
            obtain ⟨q1, q2⟩ := HQ3.out
            refine ⟨k + 1, by omega, HZ2, ?_, by rw [HRR.out]; exact q1, hs2.out.trans q2 fun x hx => .inl (HSB.out x hx)⟩
            rw [HTL.out]
            exact own_save hown2.out ((Save.set w2 qb qo _).trans (Save.set _ qb (qo + 1) _) fun _ _ h => h) fun g hg e => by
              have := (hown2.out.lt g hg).1
              omega
          case measure =>
            have h1 := own_len hown2.out
            have h2 := HLV.out
            simp only [h2, h1]
            omega
        · have tz : (c == 0) = false := by simpa using h0
          have HZ2 := hid (HZT.out h0)
          have HQK : Hid (DQ wr base qb qo (L1.drop k)) := by
            show DQ _ _ _ _ _
            rw [hdr]; exact hqk
          have HSK := hid hsk
          have HO := hid hown
          clear hqk HZS HZT HTK hdr hsk hown
          go_wp2
          go_ret
          refine ⟨L1.drop k, _, rfl, ?_, HQK.out, ?_, fun x hx => hsub x (List.mem_of_mem_drop hx), HSK.out⟩
          · rw [HT.out, HZ2.out]
            simpa [List.length_take, Nat.min_eq_left (show k ≤ L1.length by omega)] using HO.out
          · rw [HT.out, HZ2.out]
      · obtain rfl : k = n := by omega
        have HZ2 := hid (zeros_stop HZ.out (fun h => absurd h (by have := HN.out; omega)) (by have := HN.out; omega))
        have cf : wr.cell? ⟨qb, qo, none⟩ = some (.pointer none) := by
          rw [hqk.first, nextp_end (by have := HN.out; omega)]
        have HQK := hid hqk
        have HSK := hid hsk
        have HO := hid hown
        clear hqk hsk hown
        go_wp2
        go_ret
        refine ⟨L1.drop k, _, rfl, ?_, HQK.out, ?_, fun x hx => hsub x (List.mem_of_mem_drop hx), HSK.out⟩
        · rw [HT.out, HZ2.out]
          simpa [List.length_take, Nat.min_eq_left (show k ≤ L1.length by have := HN.out; omega)] using HO.out
        · rw [HT.out, HZ2.out]
end Go.Proofs.Ytdccpbnknfffaaa
