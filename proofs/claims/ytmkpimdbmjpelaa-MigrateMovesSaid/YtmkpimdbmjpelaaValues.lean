/-
  Contract of slices.Values: the numbers of a row, one behind the other, whatever the rounds write elsewhere.
-/
import Derived.Test.YtmkpimdbmjpelaaQueueList
namespace Go.Proofs.Ytmkpimdbmjpelaa
open Go.RowKit Go.Shelf
attribute [local go_sem] Oper.semAt_some
/-- What the rounds must keep: the row's own block. -/
def KpR (lo : Option Addr) (W W' : World) : Prop := W.heap.size ≤ W'.heap.size ∧ ∀ a, lo = some a → ∀ o, W.heap[a.block]? = some o → o.isCells = true → W'.heap[a.block]? = some o
theorem KpR.t {lo : Option Addr} {A B C : World} (h : KpR lo A B) (k : KpR lo B C) : KpR lo A C := ⟨Nat.le_trans h.1 k.1, fun a e o ho hc => k.2 a e o (h.2 a e o ho hc) hc⟩
theorem cell_obj {W : World} {b o : Nat} {v : Value} (h : W.cell? ⟨b, o, none⟩ = some v) : ∃ x, W.heap[b]? = some x ∧ x.isCells = true := by
  unfold World.cell? at h
  cases hx : W.heap[b]? with
  | none => rw [hx] at h; cases h
  | some x => cases x <;> simp_all [Obj.isCells]
theorem Row.kpr {lo : Option Addr} {n : Nat} {f : Nat → Value} {W W' : World} (h : Row W lo n f) (hk : KpR lo W W') : Row W' lo n f := fun i hi => by
  obtain ⟨b, o, rfl, hc⟩ := h i hi
  obtain ⟨x, hx, hxc⟩ := cell_obj hc
  exact ⟨b, o, rfl, (World.cell?_of_block (w := W) (w' := W') (a := ⟨b, o + i, none⟩) ((hk.2 _ rfl x hx hxc).trans hx.symm)).trans hc⟩
set_option maxRecDepth 100000 in
set_option maxHeartbeats 400000 in
theorem values1_in (m : Nat) (hm : 2 ≤ m) (Bl : Nat) (ao : Option Addr) (c : Nat) (xs : List Int) (w : World) (hn : xs.length ≤ 1000) (hl : Boxed w Bl 24 (.slice ao xs.length c)) (hT : Row w ao xs.length (fun i => .int .i64 (xs.getD i 0))) :
    SeqStopsK Fence.wide m Try.prog 42 #[.pointer (some ⟨Bl, 0, none⟩)] (fun x : Int => #[.int .i64 x]) (KpR ao) (fun ys => ys = xs) (fun pre => pre <+: xs) xs.length w := by
  intro l J Jx W hW hJ hJx hY h0
  refine callsIn_of_wp Try.func42 rfl trivial ?_ rfl
  simp only [Try.ntmps42, List.size_toArray, List.length_cons, List.length_nil, Nat.reduceAdd, Nat.reduceSub, Array.replicate_succ, Array.replicate_zero, List.push_toArray, List.append_toArray, List.nil_append, List.cons_append]
  have h1 : 1 ≤ m := by omega
  have hl' := (hW.cell (cell_lt hl.cell)).trans hl.cell
  have hTW := hT.below hW
  obtain ⟨n, hnn⟩ : ∃ n, xs.length = n := ⟨_, rfl⟩
  have HN := hid hnn
  rw [hnn] at hl' hTW hn hY
  clear hnn hT hl
  gi_wp2
  gi_loopw [4, 7] (fun _ i wr => ∃ k : Nat, k ≤ n ∧ i = .int .i64 k ∧ J (xs.take k) wr ∧ Row wr ao n (fun i => .int .i64 (xs.getD i 0)) ∧ W.heap.size ≤ wr.heap.size) (fun _ i _ => n - (intOf i).toNat)
  case atStart => exact ⟨0, Nat.zero_le _, rfl, h0, hTW, Nat.le_refl _⟩
  case round =>
    obtain ⟨k, hk, rfl, hJs, hnx, hsz⟩ := hrel
    by_cases hlt : k < n
    · have t0 : decide ((k : Int) < (n : Int)) = true := by simp; omega
      obtain ⟨b, o, rfl, c00⟩ := hnx k hlt
      have c1 : wr.cell? ⟨b, o + k, none⟩ = some (.int .i64 (xs.getD k 0)) := c00
      clear c00
      have HS := hid (take_snoc (xs := xs) (k := k) (by have := HN.out; omega))
      have HNX := hid hnx
      clear hnx
      obtain ⟨x, hx⟩ : ∃ x, xs.getD k 0 = x := ⟨_, rfl⟩
      rw [hx] at HS c1
      clear hx
      have HP := hid (show xs.take (k + 1) <+: xs from List.take_prefix _ _)
      obtain ⟨fn, tmps, assign, body, hy, hR⟩ := hY _ x wr hJs (by rw [List.length_take]; have := HN.out; omega)
      gi_wp2
      refine hR.mono ?_
      rintro e W3 (⟨rfl, hJ3, hk3⟩ | ⟨rfl, hJx3⟩)
      · gi_wp2
        go_roundw
        case rel => exact ⟨k + 1, by omega, by simp, by rw [HS.out]; exact hJ3, HNX.out.kpr hk3, Nat.le_trans hsz hk3.1⟩
        case measure => simp [intOf]; omega
      · gi_wp2
        refine bodyPost_ret (results_none rfl _ _ _) rfl ?_
        exact ⟨⟨_, rfl⟩, .inr ⟨_, by rw [← HS.out]; exact HP.out, hJx3⟩⟩
    · obtain rfl : k = n := by omega
      have t0 : decide ((k : Int) < (k : Int)) = false := by simp
      gi_wp2
      go_end0
      exact ⟨⟨_, rfl⟩, .inl ⟨_, rfl, by rw [List.take_of_length_le (by have := HN.out; omega)] at hJs; exact hJs⟩⟩
theorem values_any (ao : Option Addr) (n c : Nat) (w : World) : Calls Try.prog 34 #[.slice ao n c] w fun e w' => e = .returned (.func (.func 42) #[] #[.pointer (some ⟨w.heap.size, 0, none⟩)]) ∧ w.alloc (.cells #[.slice ao n c] 24) = w' := by
  go_enter Try.func34, Try.ntmps34
  go_wp2
  go_ret
  exact ⟨rfl, rfl⟩
end Go.Proofs.Ytmkpimdbmjpelaa
