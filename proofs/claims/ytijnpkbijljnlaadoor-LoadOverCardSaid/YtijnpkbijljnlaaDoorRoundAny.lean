/-
  A region that draws its order, within a round of a range over a function, whose operations may hand on to another round: it is walked as outside of the round.
-/
import Derived.Test.YtijnpkbijljnlaaDoorStageIn
import Derived.OrdersIn
namespace Go.Proofs.YtijnpkbijljnlaaDoor
open Go.RowKit
theorem opsIn_round {P : Program} {ops : Array Oper} {Q : Exit → Act → World → Prop} {l n : Nat} (hd : ∀ o ∈ ops.toList, ∀ c, o.op ≠ .defer c) :
    ∀ is a w, wpOpsIn Fence.wide n P ops Q is a w → wpOpsIn (Fence.wide.inRound l) n P ops Q is a w := by
  intro is
  induction is with
  | nil => intro a w h; exact h
  | cons i rest ih =>
    intro a w h
    unfold wpOpsIn at h ⊢
    cases ho : ops[i]? with
    | none => rw [ho] at h; exact ih a w h
    | some o =>
      rw [ho] at h
      simp only at h ⊢
      by_cases hw : Region.wanted o (yielded ops a.tmps) = true
      · rw [if_pos hw] at h ⊢
        refine ⟨fun f _ => trivial, ?_⟩
        have hm : o ∈ ops.toList := by
          obtain ⟨hlt, e⟩ := Array.getElem?_eq_some_iff.1 ho
          rw [← e]; simp
        have h2 := h.2
        rw [Fence.inRound_round, Oper.semAt_some l _ o (hd o hm)]
        rw [show Oper.semAt Fence.wide.round a.eval o = execOp a.eval o from rfl] at h2
        cases hr : (execOp a.eval o).run P w with
        | ok nx w' =>
          rw [hr] at h2
          cases nx with
          | value v => exact ih _ _ h2
          | skip => exact ih _ _ h2
          | defer d => exact ih _ _ h2
          | enter f args =>
            refine ⟨fun e => (by cases e), CallsIn.inRound l (CallsIn.mono h2.2 ?_)⟩
            intro e w'' he
            cases e with
            | returned v => exact ih _ _ he
            | panicked ch => exact he
            | outgrown => exact he
          | row row args =>
            refine ⟨fun e => (by cases e), RowsIn.mono (show RowsIn (Fence.wide.inRound l) _ _ _ _ _ _ from h2.2) ?_⟩
            intro v w'' he
            exact ih _ _ he
          | round l' f tmps assign body =>
            refine ⟨fun e => (by cases e), RoundIn.mono (show RoundIn (Fence.wide.inRound l) _ _ _ _ _ _ _ _ _ from h2.2) ?_⟩
            intro e w'' he
            cases e with
            | returned v => exact ih _ _ he
            | panicked ch => exact he
            | outgrown => exact he
          | _ => exact h2.elim
        | halt x w' =>
          rw [hr] at h2
          cases x with
          | panic v => exact h2
          | _ => exact h2.elim
      · rw [if_neg hw] at h ⊢
        exact ⟨fun f _ => trivial, ih _ _ h.2⟩
theorem wpIn_region_round {P : Program} {id : Nat} {Q : Exit → Act → World → Prop} {a : Act} {w : World} {l : List Oper} {k n : Nat} (hm : P.follows .mixedOrders = true) (hd : l.all (fun o => match o.op with | .defer _ => false | _ => true) = true)
    (h : wpAnyIn Fence.wide n P .any l.toArray Q l.toArray.size (Array.replicate l.toArray.size false) a w.drew) : (Code.region id l.toArray true).wpIn (Fence.wide.inRound k) n P Q a w :=
  wpIn_region_draw fun t => by
    refine opsIn_round (fun o ho c e => ?_) _ _ _ ?_
    · have := List.all_eq_true.1 hd o (by simpa using ho)
      rw [e] at this; cases this
    · simp only [Region.schedule, hm, Bool.true_or, if_true]
      exact wpAnyIn_sound l.toArray.size t _ a _ h
end Go.Proofs.YtijnpkbijljnlaaDoor
