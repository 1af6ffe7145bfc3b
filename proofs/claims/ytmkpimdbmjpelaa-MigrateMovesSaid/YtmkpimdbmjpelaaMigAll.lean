/-
  Layer 29: one queue's messages are put into another one that is empty.
-/
import Derived.Test.YtmkpimdbmjpelaaMigWays
namespace Go.Proofs.Ytmkpimdbmjpelaa
open Go.RowKit Go.Shelf
attribute [local go_sem] Oper.semAt_some
set_option maxRecDepth 100000 in
set_option maxHeartbeats 400000 in
theorem all1R_in (m : Nat) (hm : 2 ≤ m) (Bq p : Nat) (ao : Option Addr) (c : Nat) (xs : List Int) (w : World) (hn : xs.length ≤ 1000) (hl : Boxed w Bq 39 (.pointer (some ⟨p, 0, none⟩))) (h2 : w.cell? ⟨p, 2, none⟩ = some (.slice ao xs.length c)) (hT : Row w ao xs.length (fun i => .int .i64 (xs.getD i 0))) :
    SeqStopsK Fence.wide m Try.prog 43 #[.pointer (some ⟨Bq, 0, none⟩)] (fun x : Int => #[.int .i64 x]) (KpR ao) (fun ys => ys = xs) (fun pre => pre <+: xs) xs.length w := by
  intro l J Jx W hW hJ hJx hY h0
  refine callsIn_of_wp Try.func43 rfl trivial ?_ rfl
  simp only [Try.ntmps43, List.size_toArray, List.length_cons, List.length_nil, Nat.reduceAdd, Nat.reduceSub, Array.replicate_succ, Array.replicate_zero, List.push_toArray, List.append_toArray, List.nil_append, List.cons_append]
  have h1 : 1 ≤ m := by omega
  have hl' := (hW.cell (cell_lt hl.cell)).trans hl.cell
  have h2' := (hW.cell (cell_lt h2)).trans h2
  have hTW := hT.below hW
  obtain ⟨n, hnn⟩ : ∃ n, xs.length = n := ⟨_, rfl⟩
  have HN := hid hnn
  rw [hnn] at h2' hTW hn hY
  clear hnn hT h2 hl
  gi_wp2
  gi_loopw [4, 10] (fun _ i wr => ∃ k : Nat, k ≤ n ∧ i = .int .i64 k ∧ J (xs.take k) wr ∧ Row wr ao n (fun i => .int .i64 (xs.getD i 0)) ∧ W.heap.size ≤ wr.heap.size) (fun _ i _ => n - (intOf i).toNat)
  case atStart => exact ⟨0, Nat.zero_le _, rfl, h0, hTW, Nat.le_refl _⟩
  case round =>
    obtain ⟨k, hk, rfl, hJs, hnx, hsz⟩ := hrel
    by_cases hlt : k < n
    · have t0 : decide ((k : Int) < (n : Int)) = true := by simp; omega
      obtain ⟨b, o, rfl, c00⟩ := hnx k hlt
      have c1 : wr.cell? ⟨b, o + k, none⟩ = some (.int .i64 (xs.getD k 0)) := c00
      clear c00
      have HS := hid (take_snoc (xs := xs) (k := k) (by have := HN.out; omega))
      have HNX := hid hnx
      clear hnx
      obtain ⟨x, hx⟩ : ∃ x, xs.getD k 0 = x := ⟨_, rfl⟩
      rw [hx] at HS c1
      clear hx
      have HP := hid (show xs.take (k + 1) <+: xs from List.take_prefix _ _)
      obtain ⟨fn, tmps, assign, body, hy, hR⟩ := hY _ x wr hJs (by rw [List.length_take]; have := HN.out; omega)
      gi_wp2
      refine hR.mono ?_
      rintro e W3 (⟨rfl, hJ3, hk3⟩ | ⟨rfl, hJx3⟩)
      · gi_wp2
        go_roundw
        case rel => exact ⟨k + 1, by omega, by simp, by rw [HS.out]; exact hJ3, HNX.out.kpr hk3, Nat.le_trans hsz hk3.1⟩
        case measure => simp [intOf]; omega
      · gi_wp2
        refine bodyPost_ret (results_none rfl _ _ _) rfl ?_
        exact ⟨⟨_, rfl⟩, .inr ⟨_, by rw [← HS.out]; exact HP.out, hJx3⟩⟩
    · obtain rfl : k = n := by omega
      have t0 : decide ((k : Int) < (k : Int)) = false := by simp
      gi_wp2
      go_end0
      exact ⟨⟨_, rfl⟩, .inl ⟨_, rfl, by rw [List.take_of_length_le (by have := HN.out; omega)] at hJs; exact hJs⟩⟩
/-- What is left of so many messages, and how many are too many. -/
theorem fillL_new (cap : Nat) (hc : 1 ≤ cap) (L : List Int) : fillL cap [] 0 L = (lastF L cap, L.length - cap) := by
  rw [fillL_is cap hc [] (by simp) 0 _ L rfl, List.nil_append, lastF_len]
  congr 1
  omega
theorem fillq_any (base base' p pq Bq cap : Nat) (pol cap' pol' d' : Int) (v' : Value) (L : List Int) (w : World) (hf : QAt w base p (cap : Int) pol (.slice none 0 0) [] 0) (hcap : 1 ≤ cap ∧ cap ≤ 16) (hb : base ≤ w.heap.size)
    (ho : QAt w base' pq cap' pol' v' L d') (hB : Boxed w Bq 39 (.pointer (some ⟨pq, 0, none⟩))) (hL : L.length ≤ 100) :
    Calls Try.prog 33 #[.pointer (some ⟨p, 0, none⟩), .func (.func 43) #[] #[.pointer (some ⟨Bq, 0, none⟩)]] w fun e w' =>
      e = .returned (.int .i64 ((L.length - cap : Nat) : Int)) ∧ ∃ u, QAt w' base p (cap : Int) pol u (lastF L cap) (min (L.length - cap : Nat) 4096) ∧ Heir w (.slice none 0 0) u ∧ Save (fun k => k = p) w w' := by
  obtain ⟨ao, c, e, hc1, hc2, hrow, hpos⟩ := vi_view ho.row
  have h2 := ho.c2
  rw [e] at h2
  have hseq := all1R_in 7 (by omega) Bq pq ao c L w (by omega) hB h2 hrow
  obtain ⟨lo', hlo'⟩ : ∃ lo' : Option Addr, lo' = if L.length = 0 then none else ao := ⟨_, rfl⟩
  have hsq : SeqStopsK Fence.wide 7 Try.prog 43 #[.pointer (some ⟨Bq, 0, none⟩)] (fun x : Int => #[.int .i64 x]) (KpR lo') (fun ys => ys = L) (fun pre => pre <+: L) L.length w := by
    rw [hlo']
    split
    · rename_i h0
      intro l J Jx W hW hJ hJx hY h1
      exact hseq l J Jx W hW hJ hJx (fun pre x W1 _ hlt => by omega) h1
    · exact hseq
  have := fill_any 43 #[.pointer (some ⟨Bq, 0, none⟩)] base p cap pol 0 (.slice none 0 0) [] L lo' w hf hb hcap (by simp) (by omega) hL (fun a ha => by
    rw [hlo'] at ha
    split at ha
    · cases ha
    · rename_i h0
      obtain ⟨g, hg, hg2⟩ := hpos (by omega)
      rw [hg] at ha
      cases ha
      exact ⟨(ho.row.lt g hg2).2, fun e2 => hf.not_row ho.row (hg2.trans (congrArg some e2)), fun e2 => by cases e2⟩) (enters_of Try.func43 (by kernel_rfl) rfl) hsq
  unfold FillPost at this
  rw [fillL_new cap hcap.1] at this
  refine this.mono ?_
  rintro e2 w2 ⟨rfl, u, h3, h4, h5⟩
  refine ⟨rfl, u, ?_, h4, h5.mono fun k hk => ?_⟩
  · have e3 : min ((0 : Int) + ((L.length - cap : Nat) : Int)) 4096 = min (((L.length - cap : Nat) : Nat) : Int) 4096 := by omega
    rw [← e3]; exact h3
  · rcases hk with hk | hk
    · exact hk
    · cases hk
end Go.Proofs.Ytmkpimdbmjpelaa
