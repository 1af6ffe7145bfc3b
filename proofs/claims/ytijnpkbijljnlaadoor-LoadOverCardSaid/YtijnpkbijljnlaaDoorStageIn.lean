/-
  A region that draws its order, within a round of a range over a function: what is shown of it as of any code holds there too.
-/
import Derived.Test.YtijnpkbijljnlaaDoorStage
import Derived.Test.YtijnpkbijljnlaaDoorTurn
namespace Go.Proofs.YtijnpkbijljnlaaDoor
open Go.RowKit
theorem rows_in {n : Nat} {l : Nat} {P : Program} {row : String} {args : Array Value} {w : World} {R : Value → World → Prop} (h : Rows P row args w R) : RowsIn (Fence.wide.inRound l) n P row args w R := fun c cs _ => by
  obtain ⟨v, w', hR, hs⟩ := h c cs
  exact ⟨v, w', hR, stepsIn_wide.2 hs⟩
/-- No operation is a 'defer' statement: it is carried out in a round as anywhere. -/
theorem ops_in_round {P : Program} {ops : Array Oper} {Q : Exit → Act → World → Prop} {l n : Nat} (hd : ∀ o ∈ ops.toList, ∀ c, o.op ≠ .defer c) (hQ : ¬ LetsOut Q) :
    ∀ is a w, wpOps P ops Q is a w → wpOpsIn (Fence.wide.inRound l) n P ops Q is a w := by
  intro is
  induction is with
  | nil => intro a w h; exact h
  | cons i rest ih =>
    intro a w h
    unfold wpOps at h
    unfold wpOpsIn
    cases ho : ops[i]? with
    | none => rw [ho] at h; exact ih a w h
    | some o =>
      rw [ho] at h
      simp only at h ⊢
      by_cases hw : Region.wanted o (yielded ops a.tmps) = true
      · rw [if_pos hw] at h ⊢
        rcases h with h | ⟨_, h⟩
        · refine ⟨fun f _ => trivial, ?_⟩
          have hm : o ∈ ops.toList := by
            obtain ⟨hlt, e⟩ := Array.getElem?_eq_some_iff.1 ho
            rw [← e]; simp
          rw [Fence.inRound_round, Oper.semAt_some l _ o (hd o hm)]
          unfold Oper.wp at h
          cases hr : (execOp a.eval o).run P w with
          | ok nx w' =>
            rw [hr] at h
            cases nx with
            | value v => exact ih _ _ h
            | skip => exact ih _ _ h
            | defer d => exact ih _ _ h
            | enter f args =>
              refine ⟨fun e => (by cases e), CallsIn.inRound l (callsIn_wide.2 (Calls.mono h ?_))⟩
              intro e w'' he
              cases e with
              | returned v => exact ih _ _ he
              | panicked ch => exact he
              | outgrown => exact he
            | row row args =>
              refine ⟨fun e => (by cases e), rows_in (Rows.mono h ?_)⟩
              intro v w'' he
              exact ih _ _ he
            | _ => exact h.elim
          | halt x w' =>
            rw [hr] at h
            cases x with
            | panic v => exact h
            | _ => exact h.elim
        · exact (hQ h).elim
      · rw [if_neg hw] at h ⊢
        exact ⟨fun f _ => trivial, ih _ _ h⟩
theorem wpIn_region_stage {P : Program} {id : Nat} {Q : Exit → Act → World → Prop} {a : Act} {w : World} {l : List Oper} {k n : Nat} (N : Nat) (C : Nat → World → Prop) (hm : P.follows .mixedOrders = true) (hB : stgB l N = true) (hd : l.all (fun o => match o.op with | .defer _ => false | _ => true) = true) (hQ : ¬ LetsOut Q) (h0 : C 0 w.drew)
    (h : wpStg P l.toArray C (fun s a' => ∀ w', C s w' → wpList P l.toArray Q (l.drop N) a' w') 0 (l.take N) a) : (Code.region id l.toArray true).wpIn (Fence.wide.inRound k) n P Q a w :=
  wpIn_region_draw fun t => by
    refine ops_in_round (fun o ho c e => ?_) hQ _ _ _ ?_
    · have := List.all_eq_true.1 hd o (by simpa using ho)
      rw [e] at this; cases this
    · simp only [Region.schedule, hm, Bool.true_or, if_true]
      exact wpAny_sound l.toArray.size t _ a _ (wpAny_region_stage N C hB h0 h)
end Go.Proofs.YtijnpkbijljnlaaDoor
