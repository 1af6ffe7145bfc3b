/-
  Layer 48: contract of Ticks and of the iterator that it hands back.
-/
import Derived.Test.YtdccpbnknfffaaaAlarmGoesI
import Derived.Test.YtdccpbnknfffaaaScopeIn
namespace Go.Proofs.Ytdccpbnknfffaaa
open Go.RowKit Go.Shelf Go.Maps
attribute [local go_sem] Oper.semAt_some
theorem ticks_any (ab : Nat) (many : Int) (w : World) :
    Calls Try.prog 34 #[.pointer (some ⟨ab, 0, none⟩), .int .i64 many] w fun e w' => e = .returned (.func (.func 36) #[] #[.pointer (some ⟨w.heap.size + 1, 0, none⟩), .pointer (some ⟨w.heap.size, 0, none⟩)]) ∧ w' = (w.alloc (.cells #[.pointer (some ⟨ab, 0, none⟩)] 51)).alloc (.cells #[.int .i64 many] 3) := by
  go_enter Try.func34, Try.ntmps34
  go_wp2
  go_ret
  exact ⟨rfl, rfl⟩
/-- The due row's block is none of the result's. -/
def Apart (w : World) (ao : Option Addr) (W : World) : Prop := ∀ v, Boxed W (w.heap.size + 1) 33 v → ∀ a, ao = some a → v.ownBlock ≠ some a.block
set_option maxRecDepth 100000 in
set_option maxHeartbeats 4000000 in
theorem ticks1_turns (mm : Nat) (hmm : 3 ≤ mm) (base ab gb cb m : Nat) (T : Nat → Prop) (s : ST) (N most : Nat) (many : Int) (E0 : Nat) (w w0 : World) (hw0 : w0.heap.size = w.heap.size + 4) (hA : AS w base ab gb cb m T s.1 s.2.1 s.2.2) (hT : ∀ k, w.heap.size ≤ k → T k) (hR : Rng s) (hwf : ∀ x ∈ s.1, (kI x.1).wf = true)
    (hmN : m + 64 * N ≤ 1000000) (hN : N = many.toNat) (hmany : many ≤ 500) (hmost : 1 ≤ most) (h0 : ∀ W1, w0.grownBy W1 none → W1.heap.size = w0.heap.size + 2 → OutA w base ab T many most [] W1 ∧ Below w.heap.size w W1) :
    TurnsS Fence.wide mm Try.prog 36 #[.pointer (some ⟨w.heap.size + 3, 0, none⟩), .pointer (some ⟨w.heap.size + 2, 0, none⟩)] enc2 (KpA w) (IA w base ab gb cb m T s N most many) (IA2 w base ab gb cb m T s N most many) (IxA w base ab gb cb m T s N most many E0) (fun xs => xs = evE s N) (FitA s N) w0 := by
  intro l R Rx W1 hg1 hsz1 hRs hRxs hY hR1
  obtain ⟨hO0, hB0⟩ := h0 W1 hg1 hsz1
  have hab := hA.q.lt.1
  have HS0 : Hid (SA w base ab gb cb m T s 0 W1) := (hA.cast (T' := TG w T) fun k hk ht => .inl ⟨ht, hk⟩).below hB0
  have HO0 := hid hO0
  have HR0 := hid hR1
  have HRS := hid hRs
  have HRX := hid hRxs
  have HYY := hid hY
  have HT := hid hT
  have HTG : Hid (∀ (W : World) (k : Nat), w.heap.size + 6 ≤ W.heap.size → W.heap.size ≤ k → TG w T k) := fun _ _ h1 h2 => .inr (by omega)
  have HRG := hid hR
  have HWF := hid hwf
  have h1 : 1 ≤ mm := by omega
  have hif : (if (4096 : Int) < many then 4096 else many) = many := if_neg (by omega)
  clear h0 hA hg1 hRs hRxs hY hR1 hO0 hB0 hR hwf hT
  refine callsIn_of_wp Try.func36 rfl trivial ?_ rfl
  simp only [Try.ntmps36, List.size_toArray, List.length_cons, List.length_nil, Nat.reduceAdd, Nat.reduceSub, Array.replicate_succ, Array.replicate_zero, List.push_toArray, List.append_toArray, List.nil_append, List.cons_append]
  gi_wp2
  refine wpIn_scope_straight ?_
  gi_wp2
  refine wpIn_label ?_
  gi_wp2
  gi_loopw [4, 5] (fun st_ n_ wr => ∃ n0 : Nat, st_ = .bool false ∧ n_ = .int .i64 ((n0 : Int) + 1) ∧ n0 ≤ N ∧ Hid (SA w base ab gb cb m T s n0 wr) ∧ Hid (OutA w base ab T many most (evE s n0) wr) ∧ (evE s n0).length < most ∧ Hid (R wr)) (fun _ n_ _ => N + 1 - (intOf n_).toNat)
  case atStart => exact ⟨0, rfl, rfl, by omega, HS0, HO0, by simp [evE]; omega, HR0⟩
  case round =>
    clear HS0 HO0 HR0
    obtain ⟨n0, rfl, rfl, hn0, HS, HO, hlen, HRR⟩ := hrel
    have cn := HO.out.bn.cell
    have ca := HO.out.ba.cell
    have hszr := HO.out.sz
    by_cases hlt : n0 < N
    · have d1 : decide ((n0 : Int) + 1 ≤ many) = true := by simp; omega
      have HTK := hid (atick_any base ab gb cb (m + 64 * n0) (TG w T) (evS s n0) wr HS.out (HRG.out.evS n0) (by omega) (evS_wf (P := fun i => (kI i).wf = true) HWF.out n0) (fun k hk => HTG.out wr k hszr hk))
      have HSZ := hid hszr
      clear hszr
      gi_wp2_with (refine ⟨trivial, ?_⟩; gi_at_call 23; refine (callsIn_wide.2 HTK.out).mono ?_; rintro e w1 ⟨v, rfl, o1, a1, k1⟩; obtain ⟨ao, cp, rfl, hrow⟩ := own_iv o1 rfl)
      have hD64 : (dueR (evS s n0).1).length ≤ 64 := Nat.le_trans dueR_len HS.out.q.len
      have HS1 : Hid (SA w base ab gb cb m T s (n0 + 1) w1) := AS.mono a1 (by omega)
      have HO1 := hid (HO.out.tick hab HT.out k1)
      have hnT : ∀ j, j < 6 → ¬ TG w T (w.heap.size + j) := fun j hj h => by rcases h with ⟨_, h⟩ | h <;> omega
      have HR1 := hid (HRS.out wr w1 HRR.out ⟨by rw [hw0]; exact k1.s.block _ (by have := HO.out.sz; omega) (hnT 4 (by omega)), by rw [hw0]; exact k1.s.block _ (by have := HO.out.sz; omega) (hnT 5 (by omega))⟩)
      have HAP : Hid (Apart w ao w1) := fun v hv a ea e => by
        obtain ⟨v0, hv0, hr0⟩ := HO.out.out
        have hv1 := boxed_save hv0 k1.s (hnT 1 (by omega))
        have hvv : v0 = v := by
          have h1 := hv1.cell
          rw [hv.cell] at h1
          exact (Option.some.inj h1).symm
        subst hvv
        have h2 := (hr0.lt _ e).2
        subst ea
        have h3 := (o1.lt a.block rfl).1
        omega
      have HOW := hid o1
      obtain ⟨B0, hB0⟩ : ∃ B0, wr.heap.size = B0 := ⟨_, rfl⟩
      rw [hB0] at HOW HSZ
      clear hB0
      obtain ⟨D, hD⟩ : ∃ D, dueR (evS s n0).1 = D := ⟨_, rfl⟩
      have HDD := hid hD
      obtain ⟨L, hL⟩ : ∃ L, D.length = L := ⟨_, rfl⟩
      have HL := hid hL
      have HEL : Hid ((evE s (n0 + 1)).length = (evE s n0).length + L) := by show _ = _; rw [evE_succ, List.length_append, evT_len, hD, hL]
      have HPF : Hid ((evE s N).take (evE s n0).length = evE s n0) := evE_prefix s hn0
      have HPF1 : Hid ((evE s N).take (evE s (n0 + 1)).length = evE s (n0 + 1)) := evE_prefix s hlt
      have hLM := evE_mono s (show n0 + 1 ≤ N from hlt)
      rw [HEL.out] at hLM
      rw [hD, hL] at HOW hD64 ⊢
      clear hD hL o1 a1 k1 hrow HTK HS HO HRR cn ca d1
      gi_wp2
      gi_loopw [4, 17] (fun st_ i_ wq => ∃ j : Nat, i_ = .int .i64 j ∧ j ≤ L ∧ Hid (wq.ownsRow B0 3 1 (.slice ao L cp) L (iv D)) ∧
        ((st_ = .bool false ∧ Hid (SA w base ab gb cb m T s (n0 + 1) wq) ∧ Hid (OutA w base ab T many most ((evE s N).take ((evE s n0).length + j)) wq) ∧ (evE s n0).length + j < most ∧ Hid (R wq) ∧ Hid (Apart w ao wq)) ∨
          (st_ = .bool true ∧ ∃ p c, Hid (IxA w base ab gb cb m T s N most many E0 c p wq) ∧ Hid (Rx c wq)))) (fun _ i_ _ => L - (intOf i_).toNat)
      case atStart => exact ⟨0, rfl, by omega, HOW, .inl ⟨rfl, HS1, by rw [Nat.add_zero, HPF.out]; exact HO1, by omega, HR1, HAP⟩⟩
      case round =>
        clear HS1 HO1 HR1 HAP HOW
        obtain ⟨j, rfl, hj, HOW, ⟨rfl, HS1, HO1, hm1, HR1, HAP⟩ | ⟨rfl, p, c, HX, HRX1⟩⟩ := hrel
        · by_cases hjl : j < L
          · obtain ⟨ao2, cp2, e2, hrow⟩ := own_iv HOW.out HL.out.symm
            cases e2
            obtain ⟨b, o, rfl, hc0⟩ := hrow j hjl
            have hc : wr.cell? ⟨b, o + j, none⟩ = some (.int .i64 (D.getD j 0)) := hc0
            obtain ⟨pre, hpre⟩ : ∃ pre, (evE s N).take ((evE s n0).length + j) = pre := ⟨_, rfl⟩
            have hpl : pre.length = (evE s n0).length + j := by rw [← hpre, List.length_take]; omega
            have hat := evE_at s hlt (j := j) (by rw [HDD.out, HL.out]; exact hjl)
            rw [HDD.out] at hat
            have hF : FitA s N pre ((n0 : Int) + 1, D.getD j 0) := ⟨by rw [hpl]; exact hat.2, by rw [hpl]; exact hat.1.symm, by rw [hpl]; exact hpre.symm⟩
            rw [hpre] at HO1
            have hIA : IA w base ab gb cb m T s N most many pre wr := ⟨n0 + 1, hlt, HS1.out, HO1.out, by omega, by rw [hpl]; exact hpre.symm, .inl ⟨n0, rfl, by omega, by rw [HEL.out]; omega⟩⟩
            have HNX : Hid (pre ++ [((n0 : Int) + 1, D.getD j 0)] = (evE s N).take ((evE s n0).length + (j + 1))) := by
              show _ = _
              rw [← hpre, ← hat.1]; exact take_next hat.2
            have HPL := hid hpl
            have HDB : Hid (B0 ≤ b ∧ b < wr.heap.size) := HOW.out.lt b rfl
            obtain ⟨fn, tmps, assign, body, hy, hRd⟩ := HYY.out pre ((n0 : Int) + 1, D.getD j 0) wr hIA HR1.out hF
            have hy : (Instr.yield l #[.int .i64 ((n0 : Int) + 1), .int .i64 (D.getD j 0)]).run Try.prog wr = _ := hy
            clear hc0 hrow hpre hat hF hIA hpl HS1 HR1
            generalize D.getD j 0 = id at hc hy hRd HNX
            gi_wp2
            refine hRd.mono ?_
            have HKR : Hid (∀ W3, KpA w wr W3 → W3.ownsRow B0 3 1 (.slice (some ⟨b, o, none⟩) L cp) L (iv D) ∧ Apart w (some ⟨b, o, none⟩) W3) := fun W3 hk => by
              obtain ⟨v, hv, _⟩ := HO1.out.out
              obtain ⟨k1, v', k2, k3⟩ := hk v hv
              have hva := HAP.out v hv _ rfl
              have hz := HSZ.out
              have hdb := HDB.out
              refine ⟨own_save HOW.out k1 fun g hg hS => ?_, fun v3 hv3 a ea e => ?_⟩
              · cases hg
                rcases hS with e | e | e
                · change b = _ at e
                  omega
                · exact hva e
                · change b = _ at e
                  omega
              · cases ea
                have hvv : v' = v3 := by
                  have h1 := k2.cell
                  rw [hv3.cell] at h1
                  exact (Option.some.inj h1).symm
                subst hvv
                rcases k3 with e2 | ⟨g, hg, e2⟩
                · rw [e2] at e; exact hva e
                · rw [e2] at e
                  have e := Option.some.inj e
                  change g = b at e
                  omega
            rintro e W3 (⟨rfl, hI2, hR3, hKp⟩ | ⟨rfl, c, hIx, hRx3, hKp⟩)
            · have HI2 := hid hI2
              have HR3 := hid hR3
              have HK3 := hid (HKR.out W3 hKp)
              clear hI2 hR3 hKp hRd hy
              gi_wp2
              go_roundw
              case rel =>
                refine ⟨j + 1, by go_num, by omega, HK3.out.1, .inl ⟨rfl, ?_, ?_, ?_, HR3, HK3.out.2⟩⟩
                · have := HI2.out.2.1
                  rwa [show (((n0 : Int) + 1, id) : Int × Int).1.toNat = n0 + 1 by simp only; omega] at this
                · have := HI2.out.2.2.1
                  rwa [HNX.out] at this
                · have := HI2.out.2.2.2
                  rw [HPL.out] at this
                  omega
              case measure => simp [intOf]; omega
            · have HIX := hid hIx
              have HR3 := hid hRx3
              have HK3 := hid (HKR.out W3 hKp)
              clear hIx hRx3 hKp hRd hy
              gi_wp2
              go_roundw
              case rel => exact ⟨j + 1, by go_num, by omega, HK3.out.1, .inr ⟨rfl, _, c, HIX, HR3⟩⟩
              case measure => simp [intOf]; omega
          · obtain rfl : j = L := by omega
            gi_wp2
            go_roundw
            case rel => exact ⟨n0 + 1, rfl, by go_num, hlt, HS1, by rw [← HPF1.out, HEL.out]; exact HO1, by rw [HEL.out]; exact hm1, HR1⟩
            case measure => simp [intOf]; omega
        · by_cases hjl : j < L
          · obtain ⟨ao2, cp2, e2, hrow⟩ := own_iv HOW.out HL.out.symm
            cases e2
            obtain ⟨b, o, rfl, hc0⟩ := hrow j hjl
            have hc : wr.cell? ⟨b, o + j, none⟩ = some (.int .i64 (D.getD j 0)) := hc0
            clear hc0 hrow
            gi_wp2
            simp only [Exit.noGoto]
            go_end0
            exact ⟨⟨_, rfl⟩, .inr ⟨p, c, HX.out, HRX1.out⟩⟩
          · obtain rfl : j = L := by omega
            gi_wp2
            simp only [Exit.noGoto]
            go_end0
            exact ⟨⟨_, rfl⟩, .inr ⟨p, c, HX.out, HRX1.out⟩⟩
    · have d1 : decide ((n0 : Int) + 1 ≤ many) = false := by simp; omega
      obtain rfl : n0 = N := by omega
      have HIA : Hid (IA w base ab gb cb m T s n0 most many (evE s n0) wr) := ⟨n0, Nat.le_refl _, HS.out, HO.out, hlen, List.take_length.symm, .inr ⟨rfl, rfl⟩⟩
      gi_wp2
      simp only [Exit.noGoto]
      go_end0
      exact ⟨⟨_, rfl⟩, .inl ⟨_, rfl, HIA.out, HRR.out⟩⟩
end Go.Proofs.Ytdccpbnknfffaaa
