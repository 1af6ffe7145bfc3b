/-
  A part of the proof: WholeFormsFacts.
-/
import Derived.Test.YtpbmmoneeoijaaaGreatDoorChecked
import Derived.Test.YtpbmmoneeoijaaaGreatDoorRows
import Derived.WalkKit
import Derived.ProofKit
namespace Go.Proofs.YtpbmmoneeoijaaaGreatDoor
open Go.ChangeShapes Go.WideShapes Go.ChangeAt Go.RowKit
set_option maxRecDepth 100000
theorem zam {a b:Bool} (h:a=true) (k:b=true):(a && b)=true:=by rw [h,k];rfl
theorem znp:(Rows.wholeFormsRow.wf (OpenSpec.ofChange Rows.wholeFormsSpec))=true:=by kernel_rfl
theorem zno:(laidOutB Tryz.pinned.checked.prog)=true:=by kernel_rfl
theorem znn:(mapsRowed Tryz.pinned.checked.prog)=true:=by kernel_rfl
theorem znm:(Tryz.f5.params.all (Tryz.pinned.checked.prog.readableRec ·))=true:=by kernel_rfl
theorem znl:(namedTie Tryz.pinned.checked.prog Rows.wholeFormsRow.named Rows.wholeFormsSpec.vars)=true:=by kernel_rfl
theorem znk:((Rows.wholeFormsRow.stops == []))=true:=by kernel_rfl
theorem znj:((Tryz.pinned.checked.prog.stops == []))=true:=by kernel_rfl
theorem zni:((Rows.wholeFormsRow.knobs == []))=true:=by kernel_rfl
theorem znh:((Tryz.pinned.checked.prog.stopKnobs == []))=true:=by kernel_rfl
theorem zng:((Rows.wholeFormsRow.inPlace == Tryz.pinned.checked.prog.inPlace 5))=true:=by kernel_rfl
theorem zmt:((Rows.wholeFormsRow.unfollowed == Tryz.pinned.checked.prog.unfollowed 5))=true:=by kernel_rfl
theorem zms:((Rows.wholeFormsRow.recurses == Tryz.pinned.checked.prog.recurses 5))=true:=by kernel_rfl
theorem zmr:((Rows.wholeFormsRow.named == Tryz.pinned.checked.prog.varsNamed 5))=true:=by kernel_rfl
theorem zmq:((Rows.wholeFormsRow.maps == (Tryz.f5.params.toList ++ Rows.wholeFormsSpec.plain.varTypes Tryz.pinned.checked.prog).any (Tryz.pinned.checked.prog.mapsRec ·)))=true:=by kernel_rfl
theorem zmp:((Rows.wholeFormsRow.ifaces == (Tryz.f5.params.toList ++ Rows.wholeFormsSpec.plain.varTypes Tryz.pinned.checked.prog).any (Tryz.pinned.checked.prog.ifacesRec ·)))=true:=by kernel_rfl
theorem zmm:((Rows.wholeFormsRow.mapsOut == Tryz.pinned.checked.prog.mapsAmong Tryz.f5.resultTypes.toList))=true:=by kernel_rfl
theorem zml:((Rows.wholeFormsRow.loops == (Tryz.f5.params.toList ++ Rows.wholeFormsSpec.plain.varTypes Tryz.pinned.checked.prog).any (Tryz.pinned.checked.prog.loopsFrom ·)))=true:=by kernel_rfl
theorem zmk:((Rows.wholeFormsRow.wideKeys == (Tryz.f5.params.toList ++ Rows.wholeFormsSpec.plain.varTypes Tryz.pinned.checked.prog ++ Tryz.f5.resultTypes.toList).any (Tryz.pinned.checked.prog.wideKeysFrom ·)))=true:=by kernel_rfl
theorem zmj:(Rows.wholeFormsSpec.vars.all (Tryz.pinned.checked.prog.varReadable ·))=true:=by kernel_rfl
theorem zmi:(Tryz.f5.resultTypes.all (fun t=>Tryz.pinned.checked.prog.readableRec t && decide (t < Tryz.pinned.checked.prog.types.size)))=true:=by kernel_rfl
theorem zmh:((Rows.wholeFormsRow.ifacesOut == Tryz.f5.resultTypes.toList.any (Tryz.pinned.checked.prog.ifacesRec ·)))=true:=by kernel_rfl
theorem zmg:((Rows.wholeFormsRow.loopsOut == Tryz.f5.resultTypes.toList.any (Tryz.pinned.checked.prog.loopsFrom ·)))=true:=by kernel_rfl
theorem zmf:((Rows.wholeFormsRow.plainKeys == Tryz.pinned.checked.prog.plainKeys))=true:=by kernel_rfl
theorem zme:(Rows.wholeFormsRow.shortTexts.isNone)=true:=by kernel_rfl
theorem zmd:(Tryz.pinned.checked.prog.stopsHeard)=true:=by kernel_rfl
theorem zmb:(Tryz.pinned.checked.prog.mayEnter)=true:=by kernel_rfl
theorem zma:((Rows.wholeFormsRow.lifted == Tryz.pinned.checked.prog.liftsFinal))=true:=by kernel_rfl
theorem zl9:((Tryz.pinned.checked.prog.make == some Rows.wholeFormsRow.make))=true:=by kernel_rfl
theorem zl8:((Rows.wholeFormsRow.kinds == (if Rows.wholeFormsRow.domain.isEmpty then [] else Tryz.f5.params.toList.map fun t=>match Tryz.pinned.checked.prog.underlying t with|some (.int k)=>some k|_=>none)))=true:=by kernel_rfl
theorem zl7:((Rows.wholeFormsRow.pinned == Rows.wholeFormsRow.pinnedBy))=true:=by kernel_rfl
theorem zl6:((Rows.wholeFormsRow.veiled == (Tryz.f5.params.toList ++ Rows.wholeFormsSpec.plain.varTypes Tryz.pinned.checked.prog ++ Tryz.f5.resultTypes.toList).any (Tryz.pinned.checked.prog.veiledRec ·)))=true:=by kernel_rfl
theorem zl5:(Rows.wholeFormsRow.veiledFits Tryz.pinned.checked.prog Tryz.f5.params.toList (Tryz.f5.params.toList ++ Rows.wholeFormsSpec.plain.varTypes Tryz.pinned.checked.prog ++ Tryz.f5.resultTypes.toList))=true:=by kernel_rfl
theorem wholeForms_joined:joinedFacts Tryz.pinned.checked.prog 5 Tryz.f5 Rows.wholeFormsSpec Rows.wholeFormsRow=true:=by
 unfold joinedFacts;exact (zam (zam (zam (zam (zam (zam (zam (zam (zam (zam (zam (zam (zam (zam (zam (zam (zam (zam (zam (zam (zam (zam (zam (zam (zam (zam (zam (zam (zam (zam (zam znp zno) znn) znm) znl) znk) znj) zni) znh) zng) zmt) zms) zmr) zmq) zmp) zmm) zml) zmk) zmj) zmi) zmh) zmg) zmf) zme) zmd) zmb) zma) zl9) zl8) zl7) zl6) zl5)
end Go.Proofs.YtpbmmoneeoijaaaGreatDoor
