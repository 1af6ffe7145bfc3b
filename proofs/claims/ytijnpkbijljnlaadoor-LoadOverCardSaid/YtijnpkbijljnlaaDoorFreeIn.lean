/-
  Regions that draw their order, with effects in a chain or in any order, within a round of a range over a function.
-/
import Derived.Test.YtijnpkbijljnlaaDoorStageIn
import Derived.Test.YtijnpkbijljnlaaDoorFree
namespace Go.Proofs.YtijnpkbijljnlaaDoor
open Go.RowKit
theorem wpIn_region_chain {P : Program} {id : Nat} {Q : Exit → Act → World → Prop} {a : Act} {w : World} {l : List Oper} {k n : Nat} (T : List Nat) (C : World → Prop) (hm : P.follows .mixedOrders = true) (hB : chainOkB l T = true) (hd : l.all (fun o => match o.op with | .defer _ => false | _ => true) = true) (hQ : ¬ LetsOut Q) (h0 : C w.drew)
    (h : wpFl P l.toArray C T (fun a' => wpTl P l.toArray C (fun a w => Q .normal a w) T a' w.drew) 0 l a) : (Code.region id l.toArray true).wpIn (Fence.wide.inRound k) n P Q a w :=
  wpIn_region_draw fun t => by
    refine ops_in_round (fun o ho c e => ?_) hQ _ _ _ ?_
    · have := List.all_eq_true.1 hd o (by simpa using ho)
      rw [e] at this; cases this
    · simp only [Region.schedule, hm, Bool.true_or, if_true]
      exact wpAny_sound l.toArray.size t _ a _ (wpAny_region_chain T C hB h0 h)
theorem wpIn_region_free {P : Program} {id : Nat} {Q : Exit → Act → World → Prop} {a : Act} {w : World} {l : List Oper} {k n : Nat} (T : List Nat) (C : World → Prop) (hm : P.follows .mixedOrders = true) (hB : freeOkB l T = true) (hd : l.all (fun o => match o.op with | .defer _ => false | _ => true) = true) (hQ : ¬ LetsOut Q) (h0 : C w.drew)
    (h : wpFl P l.toArray C T (fun a' => wpTs P l.toArray C (fun a w => Q .normal a w) T.length T a' w.drew) 0 l a) : (Code.region id l.toArray true).wpIn (Fence.wide.inRound k) n P Q a w :=
  wpIn_region_draw fun t => by
    refine ops_in_round (fun o ho c e => ?_) hQ _ _ _ ?_
    · have := List.all_eq_true.1 hd o (by simpa using ho)
      rw [e] at this; cases this
    · simp only [Region.schedule, hm, Bool.true_or, if_true]
      exact wpAny_sound l.toArray.size t _ a _ (wpAny_region_free T C hB h0 h)
end Go.Proofs.YtijnpkbijljnlaaDoor
