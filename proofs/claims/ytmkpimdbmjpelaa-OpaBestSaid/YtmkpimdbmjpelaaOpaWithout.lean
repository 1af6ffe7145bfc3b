/-
  Layer 38: contract of the document's without.
-/
import Derived.Test.YtmkpimdbmjpelaaOpaSmall
namespace Go.Proofs.Ytmkpimdbmjpelaa
open Go.RowKit
/-- An append of places that are read. -/
theorem wpList_append_pl {w : World} {ops : Array Oper} {rest : List Oper} {o : Oper} {a : Act} {Q : Exit → Act → World → Prop} (hgd : o.guard = none) (s x : Operand) (ho : o.op = .call { callee := .builtin .append, args := #[s, x], argTypes := #[24, 24] })
    (base : Nat) (v : Value) (n : Nat) (ys : List Nat) (hn : ys.length = n) (hs : a.eval s = v) (hown : w.ownsRow base 3 1 v n (ints ys)) (ad : Addr) (m xc : Nat) (zs : List Nat) (hm : zs.length = m) (hx : a.eval x = .slice (some ad) m xc)
    (hrow : ∀ (j : Nat) (u : Value), (ints zs)[j]? = some u → w.cell? (ad.add j) = some u) (hl : n + m ≤ 100000) (hB : base ≤ w.heap.size)
    (h : ∀ v' w', w'.ownsRow base 3 1 v' (ys ++ zs).length (ints (ys ++ zs)) → w.grownBy w' v.ownBlock → wpList Try.prog ops Q rest (a.put o.dst v') w') : wpList Try.prog ops Q (o :: rest) a w := by
  obtain ⟨i0, hi, hz0, hz1, hz2⟩ := info_parts infoIt
  subst hn hm
  refine wpList_append_own _ hgd s x 24 ho base 3 i0 (.int .i64 0) 1 8 Try.underlying24 hi hz0 hz1 hz2 rfl (by decide) v _ _ hs hown ad zs.length xc (ints zs) hx (by rw [ints_length]; omega) hrow (ints_one _) (by unfold maxLen; omega) (by omega) hB ?_
  intro v' w' h1 h2 _
  exact h v' w' (by rw [List.length_append, ints_append]; exact h1) h2
attribute [local go_sem] stillAt
set_option maxRecDepth 100000 in
set_option maxHeartbeats 1000000 in
theorem without_any (b n cap : Nat) (L : List Nat) (k : Nat) (w : World) (hl : L.length = n) (hn : n ≤ 20) (hk : k < n) (hcap : n ≤ cap ∧ cap ≤ maxLen) (hP : Places w (some ⟨b, 0, none⟩) L) :
    Calls Try.prog 28 #[.slice (some ⟨b, 0, none⟩) n cap, .int .i64 k] w fun e w' => ∃ v, e = .returned v ∧ w'.ownsRow w.heap.size 3 1 v (L.eraseIdx k).length (ints (L.eraseIdx k)) ∧ Below w.heap.size w w' := by
  unfold maxLen at hcap
  obtain ⟨hcap1, hcap2⟩ := hcap
  have j0 : (0 : Int) ≤ (k : Int) := by omega
  have j1 : (k : Int) < (n : Int) := by omega
  have hw1 : IntKind.i64.wrap ((k : Int) + 1) = (k : Int) + 1 := IntWalk.i64_in _ (by omega)
  have HP := hid hP
  have HN := hid hl
  have HE := hid (eraseIdx_parts L k)
  clear hP hl
  go_enter Try.func28, Try.ntmps28
  go_wp2
  refine wp_region_chain [0, 4, 9, 10] (fun X => Below w.heap.size w X) (by kernel_rfl) (by kernel_rfl) (by exact (Below.refl w.heap.size w).trans ⟨rfl, rfl, rfl, Nat.le_refl _, fun _ _ => rfl⟩) ?_
  repeat (first | refine wpFl_chain (by rfl) ?_ | (refine wpFl_still (by rfl) (by rfl) (fun K hK => ?_); go_simp; (refine ⟨_, fun _ _ => rfl, hK _ ?_⟩; clear hK K)))
  refine wpFl_still (by rfl) (by rfl) (fun K hK => ?_)
  go_simp
  refine ⟨.slice (some ⟨b, 0, none⟩) k cap, fun X hX => ?_, hK _ ?_⟩
  · go_simp
    exact fun h => absurd h (by omega)
  clear hK K
  repeat (first | refine wpFl_chain (by rfl) ?_ | (refine wpFl_still (by rfl) (by rfl) (fun K hK => ?_); go_simp; (refine ⟨_, fun _ _ => rfl, hK _ ?_⟩; clear hK K)))
  go_simp
  refine wpFl_still (by rfl) (by rfl) (fun K hK => ?_)
  go_simp
  obtain ⟨po, hpo⟩ : ∃ po, (if cap = k + 1 then 0 else k + 1) = po := ⟨_, rfl⟩
  refine ⟨.slice (some ⟨b, po, none⟩) (n - (k + 1)) (cap - (k + 1)), fun X hX => ?_, hK _ ?_⟩
  · go_simp
    rw [if_pos (by omega), ← hpo]
    split <;> rfl
  clear hK K
  repeat refine wpFl_chain (by rfl) ?_
  refine wpFl_nil ?_
  have HTK : Hid (∀ X, Below w.heap.size w X → ∀ (j : Nat) (u : Value), (ints (L.take k))[j]? = some u → X.cell? ((⟨b, 0, none⟩ : Addr).add j) = some u) := fun X hX => news_take (HP.out.below hX) (by rw [HN.out]; omega)
  have HDP : Hid (∀ X, Below w.heap.size w X → ∀ (j : Nat) (u : Value), (ints (L.drop (k + 1)))[j]? = some u → X.cell? ((⟨b, po, none⟩ : Addr).add j) = some u) := fun X hX j u hj => by
    rw [← hpo]
    split
    · have hjl : j < (ints (L.drop (k + 1))).length := (List.getElem?_eq_some_iff.1 hj).1
      rw [ints_length, List.length_drop, HN.out] at hjl
      omega
    · have := news_drop (k := k + 1) (HP.out.below hX) j u hj
      rwa [Nat.zero_add] at this
  have hlt : (L.take k).length = k := by rw [List.length_take, HN.out]; omega
  have hld : (L.drop (k + 1)).length = n - (k + 1) := by rw [List.length_drop, HN.out]
  clear hpo
  have b1 : Below w.heap.size w ((w.alloc (Obj.cells #[] 3)).drew) := ((Below.refl w.heap.size w).alloc (Nat.le_refl _) _).trans ⟨rfl, rfl, rfl, Nat.le_refl _, fun _ _ => rfl⟩
  refine wpTl_on (by rfl) (fun K hK => ?_)
  go_wp2_with fail
  refine hK _ _ b1 ?_
  clear hK K
  obtain ⟨W1, hW1⟩ : ∃ W1, W1 = (w.alloc (Obj.cells #[] 3)).drew := ⟨_, rfl⟩
  have eo : W1.ownsRow w.heap.size 3 1 (.slice (some ⟨w.heap.size, 0, none⟩) 0 0) 0 (ints []) := by rw [hW1]; exact World.ownsRow_made (w := w) #[] 0 (Nat.le_refl _) (Nat.zero_le _) rfl
  rw [← hW1] at b1 ⊢
  clear hW1
  refine wpTl_on (by rfl) (fun K hK => ?_)
  refine wpList_append_pl rfl _ _ rfl w.heap.size (.slice (some ⟨w.heap.size, 0, none⟩) 0 0) 0 [] rfl rfl eo ⟨b, 0, none⟩ k cap (L.take k) hlt rfl (HTK.out _ b1) (by omega) b1.size ?_
  intro v3 W3 hown3 hgrow3
  rw [List.nil_append] at hown3
  have b3 := b1.grown hgrow3 b1.size fun j hj => (eo.lt j hj).1
  refine hK _ _ b3 ?_
  go_simp
  clear hK K
  refine wpTl_on (by rfl) (fun K hK => ?_)
  refine wpList_append_pl rfl _ _ rfl w.heap.size v3 _ (L.take k) rfl rfl hown3 ⟨b, po, none⟩ (n - (k + 1)) (cap - (k + 1)) (L.drop (k + 1)) hld rfl (HDP.out _ b3) (by omega) b3.size ?_
  intro v4 W4 hown4 hgrow4
  have b4 := b3.grown hgrow4 b3.size fun j hj => (hown3.lt j hj).1
  have HO4 := hid hown4
  refine hK _ _ b4 ?_
  go_simp
  clear hK K
  refine wpTl_on (by rfl) (fun K hK => ?_)
  go_wp2_with fail
  refine hK _ _ b4 ?_
  clear hK K
  refine wpTl_nil ?_
  go_wp2
  go_ret
  exact ⟨_, rfl, by rw [HE.out]; exact HO4.out, b4⟩
end Go.Proofs.Ytmkpimdbmjpelaa
