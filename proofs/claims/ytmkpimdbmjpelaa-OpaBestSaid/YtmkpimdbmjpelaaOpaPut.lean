/-
  Layer 38: contract of the program's Put, of an order that names each place once.
-/
import Derived.Test.YtmkpimdbmjpelaaOpaTight
namespace Go.Proofs.Ytmkpimdbmjpelaa
open Go.RowKit
/-- Which places have been met. -/
def metC (n : Nat) (P : List Nat) : List Value := (List.range n).map fun j => .bool (decide (j ∈ P))
theorem metC_length (n : Nat) (P : List Nat) : (metC n P).length = n := by simp [metC]
theorem metC_at {n : Nat} (P : List Nat) {j : Nat} (h : j < n) : (metC n P)[j]? = some (.bool (decide (j ∈ P))) := by
  simp [metC, h]
theorem metC_set {n : Nat} (P : List Nat) {j : Nat} (h : j < n) : (metC n P).set j (.bool true) = metC n (P ++ [j]) := by
  apply List.ext_getElem?
  intro i
  rcases Nat.lt_or_ge i n with hi | hi
  · rw [metC_at _ hi]
    by_cases hij : i = j
    · subst hij
      rw [List.getElem?_set_self (by rw [metC_length]; exact h)]
      simp
    · rw [List.getElem?_set_ne (by omega), metC_at _ hi]
      simp [hij]
  · rw [List.getElem?_eq_none (by rw [List.length_set, metC_length]; exact hi), List.getElem?_eq_none (by rw [metC_length]; exact hi)]
theorem metC_nil (n : Nat) : metC n [] = List.replicate n (.bool false) := by
  apply List.ext_getElem?
  intro i
  rcases Nat.lt_or_ge i n with hi | hi
  · rw [metC_at _ hi, List.getElem?_replicate, if_pos hi]; simp
  · rw [List.getElem?_eq_none (by rw [metC_length]; exact hi), List.getElem?_eq_none (by rw [List.length_replicate]; exact hi)]
theorem infoBl : (Try.prog.info? 4).map (fun i => (i.zero, i.size, i.bytes)) = some (some (.bool false), 1, 1) := by kernel_rfl
set_option maxRecDepth 100000 in
set_option maxHeartbeats 2000000 in
theorem opaPut_any (ao po : Option Addr) (n ca cp : Nat) (g : Nat → Nat → Int) (Q : List Nat) (w : World) (hn : n ≤ 10) (hl : Q.length = n) (hT : Tasks w ao n g) (hP : Places w po Q) (hQ : Q.Perm (List.range n)) :
    Calls Try.prog 9 #[.slice ao n ca, .slice po n cp] w fun e w' => ∃ v, e = .returned v ∧ w'.ownsRow w.heap.size 64 11 v n (cells11 (othG g Q) n) ∧ Below w.heap.size w w' := by
  obtain ⟨i0, hi, hz0, hz1, hz2⟩ := info_parts infoTk
  obtain ⟨j0, gi, gz0, gz1, gz2⟩ := info_parts infoBl
  obtain ⟨W5, hmk, hown0, hgr⟩ := run_make_full (P := Try.prog) w w.heap.size 67 4 j0 (.bool false) 1 Try.underlying67 gi gz0 gz1 .i64 .i64 n (by rw [gz2]; omega) (by unfold maxLen; omega) (Nat.le_refl _)
  have hb0 : Below w.heap.size w W5 := (Below.refl w.heap.size w).grown hgr (Nat.le_refl _) (by simp)
  have h5 : w.heap.size < W5.heap.size := (hown0.lt w.heap.size rfl).2
  have HM0 : Hid (W5.ownsRow w.heap.size 4 1 (.slice (some ⟨w.heap.size, 0, none⟩) n n) n (metC n (Q.take 0))) := by
    show W5.ownsRow w.heap.size 4 1 _ n (metC n (Q.take 0))
    rw [List.take_zero, metC_nil]
    have e : (madeCells (Value.bool false).cells (n * 1)).toList = List.replicate n (Value.bool false) := by
      rw [Nat.mul_one]; exact toList_madeCells_one _ _
    rw [← e]; exact hown0
  have HT := hid hT
  have HP := hid hP
  have HL := hid hl
  have HB0 := hid hb0
  have HBel : Hid (Bel n Q) := fun i hi => List.mem_range.1 (hQ.subset hi)
  have HNot : Hid (∀ c, c < n → Q.getD c 0 ∉ Q.take c) := fun c hc hm => by
    have hnd : Q.Nodup := hQ.symm.nodup List.nodup_range
    obtain ⟨i, hi, e⟩ := List.getElem_of_mem hm
    rw [List.length_take] at hi
    rw [List.getElem_take, List.getD_eq_getElem?_getD, List.getElem?_eq_getElem (by omega)] at e
    have := (List.getElem_inj hnd).1 e
    omega
  have HTK : Hid (∀ c, c < n → Q.take (c + 1) = Q.take c ++ [Q.getD c 0]) := fun c hc => by
    rw [List.take_succ_eq_append_getElem (by rw [HL.out]; exact hc), List.getD_eq_getElem?_getD, List.getElem?_eq_getElem (by rw [HL.out]; exact hc)]; rfl
  have t9 : ((n : Int) != (n : Int)) = false := by simp
  clear hT hP hl hQ hown0 hgr hb0
  go_enter Try.func9, Try.ntmps9
  go_wp2
  go_loopw [6, 8, 19] (fun v _ i wr => ∃ c : Nat, c ≤ n ∧ i = .int .i64 c ∧ Hid (wr.ownsRow w.heap.size 4 1 (.slice (some ⟨w.heap.size, 0, none⟩) n n) n (metC n (Q.take c))) ∧ Hid (wr.ownsRow W5.heap.size 64 11 v c (cells11 (othG g Q) c)) ∧ Hid (Below w.heap.size w wr) ∧ W5.heap.size ≤ wr.heap.size) (fun _ _ i _ => n - (intOf i).toNat)
  case atStart => exact ⟨0, by omega, rfl, HM0, World.ownsRow_nil _ _ _ _, HB0, Nat.le_refl _⟩
  case round =>
    clear HM0 HB0 hmk
    obtain ⟨c, hc, rfl, HM, HO, HB, h5r⟩ := hrel
    by_cases hlt : c < n
    · have t0 : decide ((c : Int) < (n : Int)) = true := by simp; omega
      have hin := HBel.out.at_ (k := c) (by rw [HL.out]; exact hlt)
      obtain ⟨pb, pof, rfl, c00⟩ := (HP.out.below HB.out) c (by rw [HL.out]; exact hlt)
      have cP : wr.cell? ⟨pb, pof + c, none⟩ = some (.int .i64 (Q.getD c 0 : Nat)) := c00
      have HG : Hid (othG g Q c = g (Q.getD c 0)) := rfl
      have HN := HNot.out c hlt
      have HK := hid (HTK.out c hlt)
      obtain ⟨p, hp⟩ : ∃ p, Q.getD c 0 = p := ⟨_, rfl⟩
      rw [hp] at hin cP HG HN HK
      have cM : wr.cell? ⟨w.heap.size, p, none⟩ = some (.bool false) := by
        rw [HM.out.cellAt p (by omega), metC_at _ hin]
        simp [HN]
      have fM := HM.out.frozenAt p
      have hst := HM.out.stored p (.bool true)
      rw [metC_set _ hin, ← HK.out] at hst
      have HM1 := hid hst.1
      have HB1 := hid (HB.out.grown hst.2 HB.out.size fun j hj => (HM.out.lt j hj).1)
      have hne : ∀ k, u6.ownBlock = some k → k ≠ w.heap.size := fun k hk => by have := (HO.out.lt k hk).1; omega
      have HO1 := hid (HO.out.kept hst.2 (by
        cases e : u6.ownBlock with
        | none => exact .inl rfl
        | some k => exact .inr fun h => hne k e (by simpa using h)))
      have hszz : (wr.setCell ⟨w.heap.size, p, none⟩ (.bool true)).heap.size = wr.heap.size := by simp
      obtain ⟨b, o, rfl, _⟩ := HT.out.form hin
      obtain ⟨⟨c0, c1, c2, c3⟩, ⟨c4, c5, c6, c7⟩, c8, c9, c10⟩ := (HT.out.below HB1.out).at_ hin
      have i0' : (0 : Int) ≤ (c : Int) := by omega
      have i1 : (c : Int) < (n : Int) := by omega
      have i2 : (0 : Int) ≤ (p : Int) := by omega
      have i3 : (p : Int) < (n : Int) := by omega
      have t2 : decide ((p : Int) < 0) = false := by simp
      have t3 : decide ((n : Int) ≤ (p : Int)) = false := by simp; omega
      have hnews : ∀ (j : Nat) (u : Value), (c11 (g p))[j]? = some u → ((wr.setCell ⟨w.heap.size, p, none⟩ (.bool true)).alloc (Obj.cells #[.int .i64 (g p 0), .int .i64 (g p 1), .int .i64 (g p 2), .int .i64 (g p 3), .int .i64 (g p 4), .int .i64 (g p 5), .int .i64 (g p 6), .int .i64 (g p 7), .int .i64 (g p 8), .int .i64 (g p 9), .int .i64 (g p 10)] 64)).cell? ((⟨wr.heap.size, 0, none⟩ : Addr).add j) = some u := fun j u hj => by
        have := news11 (wr.setCell ⟨w.heap.size, p, none⟩ (.bool true)) (g p) 64 j u hj
        rw [hszz] at this; exact this
      have HNW := hid hnews
      have hsz := HB.out.size
      clear c00 hp HN HK hst HM HO HB hnews
      go_wp2_with (at_builtin; refine wpList_append_own _ rfl _ _ 22 rfl W5.heap.size 64 i0 (.agg #[.int .i64 0, .int .i64 0, .int .i64 0, .int .i64 0, .int .i64 0, .int .i64 0, .int .i64 0, .int .i64 0, .int .i64 0, .int .i64 0, .int .i64 0]) 11 88 Try.underlying22 hi hz0 hz1 hz2 rfl (by decide) u6 c _ rfl (HO1.out.alloc _) ⟨wr.heap.size, 0, none⟩ 1 1 (c11 (g p)) rfl rfl HNW.out (c11_one _) (by unfold maxLen; omega) (by omega) (by simp; omega) ?_; intro v' w1 hown1 hgrow _; have HO2 := hid hown1; have HG2 := hid hgrow; clear hown1 hgrow)
      go_roundw
      case rel =>
        refine ⟨c + 1, by omega, by go_num, (HM1.out.alloc _).kept HG2.out (.inr fun h => hne w.heap.size h.symm rfl), by rw [cells11, HG.out]; exact HO2.out, (HB1.out.alloc HB1.out.size _).grown HG2.out (by simp; omega) fun j hj => ?_, ?_⟩
        · have := (HO1.out.lt j hj).1; omega
        · have := HG2.out.size; simp at this; omega
      case measure => simp [intOf]; omega
    · obtain rfl : c = n := by omega
      have t0 : decide ((c : Int) < (c : Int)) = false := by simp
      go_wp2
      go_ret
      exact ⟨_, rfl, own_baseP HO.out (by omega), HB.out⟩
end Go.Proofs.Ytmkpimdbmjpelaa
