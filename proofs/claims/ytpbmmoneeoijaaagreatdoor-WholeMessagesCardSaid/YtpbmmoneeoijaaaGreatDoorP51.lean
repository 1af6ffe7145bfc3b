/-
  A part of the proof: WholeMessagesFacts.
-/
import Derived.Test.YtpbmmoneeoijaaaGreatDoorChecked
import Derived.Test.YtpbmmoneeoijaaaGreatDoorRows
import Derived.WalkKit
import Derived.ProofKit
namespace Go.Proofs.YtpbmmoneeoijaaaGreatDoor
open Go.ChangeShapes Go.WideShapes Go.ChangeAt Go.RowKit
set_option maxRecDepth 100000
theorem zai {a b:Bool} (h:a=true) (k:b=true):(a && b)=true:=by rw [h,k];rfl
theorem wholeMessagesFact0:(Rows.wholeMessagesRow.wf (OpenSpec.ofChange Rows.wholeMessagesSpec))=true:=by kernel_rfl
theorem wholeMessagesFact1:(laidOutB Tryz.pinned.checked.prog)=true:=by kernel_rfl
theorem wholeMessagesFact2:(mapsRowed Tryz.pinned.checked.prog)=true:=by kernel_rfl
theorem wholeMessagesFact3:(Tryz.f4.params.all (Tryz.pinned.checked.prog.readableRec ·))=true:=by kernel_rfl
theorem wholeMessagesFact4:(namedTie Tryz.pinned.checked.prog Rows.wholeMessagesRow.named Rows.wholeMessagesSpec.vars)=true:=by kernel_rfl
theorem wholeMessagesFact5:((Rows.wholeMessagesRow.stops == []))=true:=by kernel_rfl
theorem wholeMessagesFact6:((Tryz.pinned.checked.prog.stops == []))=true:=by kernel_rfl
theorem wholeMessagesFact7:((Rows.wholeMessagesRow.knobs == []))=true:=by kernel_rfl
theorem wholeMessagesFact8:((Tryz.pinned.checked.prog.stopKnobs == []))=true:=by kernel_rfl
theorem wholeMessagesFact9:((Rows.wholeMessagesRow.inPlace == Tryz.pinned.checked.prog.inPlace 4))=true:=by kernel_rfl
theorem wholeMessagesFact10:((Rows.wholeMessagesRow.unfollowed == Tryz.pinned.checked.prog.unfollowed 4))=true:=by kernel_rfl
theorem wholeMessagesFact11:((Rows.wholeMessagesRow.recurses == Tryz.pinned.checked.prog.recurses 4))=true:=by kernel_rfl
theorem wholeMessagesFact12:((Rows.wholeMessagesRow.named == Tryz.pinned.checked.prog.varsNamed 4))=true:=by kernel_rfl
theorem wholeMessagesFact13:((Rows.wholeMessagesRow.maps == (Tryz.f4.params.toList ++ Rows.wholeMessagesSpec.plain.varTypes Tryz.pinned.checked.prog).any (Tryz.pinned.checked.prog.mapsRec ·)))=true:=by kernel_rfl
theorem wholeMessagesFact14:((Rows.wholeMessagesRow.ifaces == (Tryz.f4.params.toList ++ Rows.wholeMessagesSpec.plain.varTypes Tryz.pinned.checked.prog).any (Tryz.pinned.checked.prog.ifacesRec ·)))=true:=by kernel_rfl
theorem wholeMessagesFact15:((Rows.wholeMessagesRow.mapsOut == Tryz.pinned.checked.prog.mapsAmong Tryz.f4.resultTypes.toList))=true:=by kernel_rfl
theorem wholeMessagesFact16:((Rows.wholeMessagesRow.loops == (Tryz.f4.params.toList ++ Rows.wholeMessagesSpec.plain.varTypes Tryz.pinned.checked.prog).any (Tryz.pinned.checked.prog.loopsFrom ·)))=true:=by kernel_rfl
theorem wholeMessagesFact17:((Rows.wholeMessagesRow.wideKeys == (Tryz.f4.params.toList ++ Rows.wholeMessagesSpec.plain.varTypes Tryz.pinned.checked.prog ++ Tryz.f4.resultTypes.toList).any (Tryz.pinned.checked.prog.wideKeysFrom ·)))=true:=by kernel_rfl
theorem wholeMessagesFact18:(Rows.wholeMessagesSpec.vars.all (Tryz.pinned.checked.prog.varReadable ·))=true:=by kernel_rfl
theorem wholeMessagesFact19:(Tryz.f4.resultTypes.all (fun t=>Tryz.pinned.checked.prog.readableRec t && decide (t < Tryz.pinned.checked.prog.types.size)))=true:=by kernel_rfl
theorem wholeMessagesFact20:((Rows.wholeMessagesRow.ifacesOut == Tryz.f4.resultTypes.toList.any (Tryz.pinned.checked.prog.ifacesRec ·)))=true:=by kernel_rfl
theorem wholeMessagesFact21:((Rows.wholeMessagesRow.loopsOut == Tryz.f4.resultTypes.toList.any (Tryz.pinned.checked.prog.loopsFrom ·)))=true:=by kernel_rfl
theorem wholeMessagesFact22:((Rows.wholeMessagesRow.plainKeys == Tryz.pinned.checked.prog.plainKeys))=true:=by kernel_rfl
theorem wholeMessagesFact23:(Rows.wholeMessagesRow.shortTexts.isNone)=true:=by kernel_rfl
theorem wholeMessagesFact24:(Tryz.pinned.checked.prog.stopsHeard)=true:=by kernel_rfl
theorem wholeMessagesFact25:(Tryz.pinned.checked.prog.mayEnter)=true:=by kernel_rfl
theorem wholeMessagesFact26:((Rows.wholeMessagesRow.lifted == Tryz.pinned.checked.prog.liftsFinal))=true:=by kernel_rfl
theorem wholeMessagesFact27:((Tryz.pinned.checked.prog.make == some Rows.wholeMessagesRow.make))=true:=by kernel_rfl
theorem wholeMessagesFact28:((Rows.wholeMessagesRow.kinds == (if Rows.wholeMessagesRow.domain.isEmpty then [] else Tryz.f4.params.toList.map fun t=>match Tryz.pinned.checked.prog.underlying t with|some (.int k)=>some k|_=>none)))=true:=by kernel_rfl
theorem wholeMessagesFact29:((Rows.wholeMessagesRow.pinned == Rows.wholeMessagesRow.pinnedBy))=true:=by kernel_rfl
theorem wholeMessagesFact30:((Rows.wholeMessagesRow.veiled == (Tryz.f4.params.toList ++ Rows.wholeMessagesSpec.plain.varTypes Tryz.pinned.checked.prog ++ Tryz.f4.resultTypes.toList).any (Tryz.pinned.checked.prog.veiledRec ·)))=true:=by kernel_rfl
theorem wholeMessagesFact31:(Rows.wholeMessagesRow.veiledFits Tryz.pinned.checked.prog Tryz.f4.params.toList (Tryz.f4.params.toList ++ Rows.wholeMessagesSpec.plain.varTypes Tryz.pinned.checked.prog ++ Tryz.f4.resultTypes.toList))=true:=by kernel_rfl
theorem wholeMessages_joined:joinedFacts Tryz.pinned.checked.prog 4 Tryz.f4 Rows.wholeMessagesSpec Rows.wholeMessagesRow=true:=by
 unfold joinedFacts;exact (zai (zai (zai (zai (zai (zai (zai (zai (zai (zai (zai (zai (zai (zai (zai (zai (zai (zai (zai (zai (zai (zai (zai (zai (zai (zai (zai (zai (zai (zai (zai wholeMessagesFact0 wholeMessagesFact1) wholeMessagesFact2) wholeMessagesFact3) wholeMessagesFact4) wholeMessagesFact5) wholeMessagesFact6) wholeMessagesFact7) wholeMessagesFact8) wholeMessagesFact9) wholeMessagesFact10) wholeMessagesFact11) wholeMessagesFact12) wholeMessagesFact13) wholeMessagesFact14) wholeMessagesFact15) wholeMessagesFact16) wholeMessagesFact17) wholeMessagesFact18) wholeMessagesFact19) wholeMessagesFact20) wholeMessagesFact21) wholeMessagesFact22) wholeMessagesFact23) wholeMessagesFact24) wholeMessagesFact25) wholeMessagesFact26) wholeMessagesFact27) wholeMessagesFact28) wholeMessagesFact29) wholeMessagesFact30) wholeMessagesFact31)
end Go.Proofs.YtpbmmoneeoijaaaGreatDoor
