/-
  No cell of these rows narrows 'for every input' (looked for: loops, veiled, ifaces, maps, wideKeys, modest, calm, conditions, laid).
  DERIVED. THE GIVEN ROWS OF THIS SEAT. 12 by the template 'for every input the law returns true; each argument reads behind the call as it read before'; 0 by the template 'total and deterministic' (their statements: YtgcpfmdldgmbnaaTotals.lean).
  GIVEN WITH THE SEED: the statements are not yours to turn. If you find one false, say at which input.
  Laid BY PROGRAM, IN A SANDBOX (cutbox-rows.mjs): the forced cells as the released guide's own fill.sh prints them over the translation e3fab364a4b131b9… (all of the seat's roots in one cut). By AI agents, Wed Nov 11 2026. No macro, syntax, notation, axiom, sorry.
-/
import Derived.Test.YtgcpfmdldgmbnaaChecked
import GoSem.Claim
import GoSem.ClaimJoined
import GoSem.ClaimMapViews
import Derived.JoinedTies
import Derived.KernelRfl
namespace Go.Proofs.Ytgcpfmdldgmbnaa
/- THE CELL 'sum', in the pinned program and in every row, IS THE sha256 OF THE DUMP (.gsa) THAT YtgcpfmdldgmbnaaProg.lean LOADS. Nothing in Lean hashes anything: it is a label: what it is worth is what the hold of that sum in a sandbox is worth. -/
noncomputable def Try.pinned : Pinned := { name := "ytgcpfmdldgmbnaa", sum := "e3fab364a4b131b9bf45c42d8f17cba75da0b5c002bac982a488380a3a332919", checked := Try.checked }
namespace Rows
def none {H : Type} : Left H := { results := [], args := [] }

/-- 'remontoirlaw05.PairKeeps': WHATEVER THE INPUT: true; the input reads as it did. -/
def pairKeepsSpec : ChangeSpec := { name := "pairKeeps", fn := fun _ => fun
  | [d1, d2, d3] => { results := [.lit (.bool true)], args := [d1, d2, d3] }
  | _ => none }
def pairKeepsRow : OpenClaim := { program := "ytgcpfmdldgmbnaa", sum := "e3fab364a4b131b9bf45c42d8f17cba75da0b5c002bac982a488380a3a332919", func := "remontoir/remontoirlaw05.PairKeeps", spec := "pairKeeps", apart := false }
def PairKeepsSaid : Prop := pairKeepsRow.holds Try.pinned (OpenSpec.ofChange pairKeepsSpec)

/-- ITS FALSE NEIGHBOUR: 'it returns false'. Refute it at one input. -/
def pairKeepsWrong : ChangeSpec := { name := "pairKeeps", fn := fun _ => fun
  | [d1, d2, d3] => { results := [.lit (.bool false)], args := [d1, d2, d3] }
  | _ => none }
def PairKeepsWrongFalsely : Prop := pairKeepsRow.holds Try.pinned (OpenSpec.ofChange pairKeepsWrong)

/-- 'remontoirlaw05.PairTells': WHATEVER THE INPUT: true; the input reads as it did. -/
def pairTellsSpec : ChangeSpec := { name := "pairTells", fn := fun _ => fun
  | [d1, d2] => { results := [.lit (.bool true)], args := [d1, d2] }
  | _ => none }
def pairTellsRow : OpenClaim := { program := "ytgcpfmdldgmbnaa", sum := "e3fab364a4b131b9bf45c42d8f17cba75da0b5c002bac982a488380a3a332919", func := "remontoir/remontoirlaw05.PairTells", spec := "pairTells", apart := false }
def PairTellsSaid : Prop := pairTellsRow.holds Try.pinned (OpenSpec.ofChange pairTellsSpec)

/-- ITS FALSE NEIGHBOUR: 'it returns false'. Refute it at one input. -/
def pairTellsWrong : ChangeSpec := { name := "pairTells", fn := fun _ => fun
  | [d1, d2] => { results := [.lit (.bool false)], args := [d1, d2] }
  | _ => none }
def PairTellsWrongFalsely : Prop := pairTellsRow.holds Try.pinned (OpenSpec.ofChange pairTellsWrong)

/-- 'remontoirlaw05.PairMasks': WHATEVER THE INPUT: true; the input reads as it did. -/
def pairMasksSpec : ChangeSpec := { name := "pairMasks", fn := fun _ => fun
  | [d1, d2] => { results := [.lit (.bool true)], args := [d1, d2] }
  | _ => none }
def pairMasksRow : OpenClaim := { program := "ytgcpfmdldgmbnaa", sum := "e3fab364a4b131b9bf45c42d8f17cba75da0b5c002bac982a488380a3a332919", func := "remontoir/remontoirlaw05.PairMasks", spec := "pairMasks", apart := false }
def PairMasksSaid : Prop := pairMasksRow.holds Try.pinned (OpenSpec.ofChange pairMasksSpec)

/-- ITS FALSE NEIGHBOUR: 'it returns false'. Refute it at one input. -/
def pairMasksWrong : ChangeSpec := { name := "pairMasks", fn := fun _ => fun
  | [d1, d2] => { results := [.lit (.bool false)], args := [d1, d2] }
  | _ => none }
def PairMasksWrongFalsely : Prop := pairMasksRow.holds Try.pinned (OpenSpec.ofChange pairMasksWrong)

/-- 'remontoirlaw04.CrcBit': WHATEVER THE INPUT: true; the input reads as it did. -/
def crcBitSpec : ChangeSpec := { name := "crcBit", fn := fun _ => fun
  | [d1, d2, d3] => { results := [.lit (.bool true)], args := [d1, d2, d3] }
  | _ => none }
def crcBitRow : OpenClaim := { program := "ytgcpfmdldgmbnaa", sum := "e3fab364a4b131b9bf45c42d8f17cba75da0b5c002bac982a488380a3a332919", func := "remontoir/remontoirlaw04.CrcBit", spec := "crcBit", apart := false }
def CrcBitSaid : Prop := crcBitRow.holds Try.pinned (OpenSpec.ofChange crcBitSpec)

/-- ITS FALSE NEIGHBOUR: 'it returns false'. Refute it at one input. -/
def crcBitWrong : ChangeSpec := { name := "crcBit", fn := fun _ => fun
  | [d1, d2, d3] => { results := [.lit (.bool false)], args := [d1, d2, d3] }
  | _ => none }
def CrcBitWrongFalsely : Prop := crcBitRow.holds Try.pinned (OpenSpec.ofChange crcBitWrong)

/-- 'remontoirlaw04.CrcAdds': WHATEVER THE INPUT: true; the input reads as it did. -/
def crcAddsSpec : ChangeSpec := { name := "crcAdds", fn := fun _ => fun
  | [d1, d2, d3] => { results := [.lit (.bool true)], args := [d1, d2, d3] }
  | _ => none }
def crcAddsRow : OpenClaim := { program := "ytgcpfmdldgmbnaa", sum := "e3fab364a4b131b9bf45c42d8f17cba75da0b5c002bac982a488380a3a332919", func := "remontoir/remontoirlaw04.CrcAdds", spec := "crcAdds", apart := false }
def CrcAddsSaid : Prop := crcAddsRow.holds Try.pinned (OpenSpec.ofChange crcAddsSpec)

/-- ITS FALSE NEIGHBOUR: 'it returns false'. Refute it at one input. -/
def crcAddsWrong : ChangeSpec := { name := "crcAdds", fn := fun _ => fun
  | [d1, d2, d3] => { results := [.lit (.bool false)], args := [d1, d2, d3] }
  | _ => none }
def CrcAddsWrongFalsely : Prop := crcAddsRow.holds Try.pinned (OpenSpec.ofChange crcAddsWrong)

/-- 'remontoirlaw04.CrcSums': WHATEVER THE INPUT: true; the input reads as it did. -/
def crcSumsSpec : ChangeSpec := { name := "crcSums", fn := fun _ => fun
  | [d1, d2] => { results := [.lit (.bool true)], args := [d1, d2] }
  | _ => none }
def crcSumsRow : OpenClaim := { program := "ytgcpfmdldgmbnaa", sum := "e3fab364a4b131b9bf45c42d8f17cba75da0b5c002bac982a488380a3a332919", func := "remontoir/remontoirlaw04.CrcSums", spec := "crcSums", apart := false }
def CrcSumsSaid : Prop := crcSumsRow.holds Try.pinned (OpenSpec.ofChange crcSumsSpec)

/-- ITS FALSE NEIGHBOUR: 'it returns false'. Refute it at one input. -/
def crcSumsWrong : ChangeSpec := { name := "crcSums", fn := fun _ => fun
  | [d1, d2] => { results := [.lit (.bool false)], args := [d1, d2] }
  | _ => none }
def CrcSumsWrongFalsely : Prop := crcSumsRow.holds Try.pinned (OpenSpec.ofChange crcSumsWrong)

/-- 'remontoirlaw02.CheckDivides': WHATEVER THE INPUT: true; the input reads as it did. -/
def checkDividesSpec : ChangeSpec := { name := "checkDivides", fn := fun _ => fun
  | [d1, d2, d3] => { results := [.lit (.bool true)], args := [d1, d2, d3] }
  | _ => none }
def checkDividesRow : OpenClaim := { program := "ytgcpfmdldgmbnaa", sum := "e3fab364a4b131b9bf45c42d8f17cba75da0b5c002bac982a488380a3a332919", func := "remontoir/remontoirlaw02.CheckDivides", spec := "checkDivides", apart := false }
def CheckDividesSaid : Prop := checkDividesRow.holds Try.pinned (OpenSpec.ofChange checkDividesSpec)

/-- ITS FALSE NEIGHBOUR: 'it returns false'. Refute it at one input. -/
def checkDividesWrong : ChangeSpec := { name := "checkDivides", fn := fun _ => fun
  | [d1, d2, d3] => { results := [.lit (.bool false)], args := [d1, d2, d3] }
  | _ => none }
def CheckDividesWrongFalsely : Prop := checkDividesRow.holds Try.pinned (OpenSpec.ofChange checkDividesWrong)

/-- 'remontoirlaw02.CheckReckons': WHATEVER THE INPUT: true; the input reads as it did. -/
def checkReckonsSpec : ChangeSpec := { name := "checkReckons", fn := fun _ => fun
  | [d1, d2] => { results := [.lit (.bool true)], args := [d1, d2] }
  | _ => none }
def checkReckonsRow : OpenClaim := { program := "ytgcpfmdldgmbnaa", sum := "e3fab364a4b131b9bf45c42d8f17cba75da0b5c002bac982a488380a3a332919", func := "remontoir/remontoirlaw02.CheckReckons", spec := "checkReckons", apart := false }
def CheckReckonsSaid : Prop := checkReckonsRow.holds Try.pinned (OpenSpec.ofChange checkReckonsSpec)

/-- ITS FALSE NEIGHBOUR: 'it returns false'. Refute it at one input. -/
def checkReckonsWrong : ChangeSpec := { name := "checkReckons", fn := fun _ => fun
  | [d1, d2] => { results := [.lit (.bool false)], args := [d1, d2] }
  | _ => none }
def CheckReckonsWrongFalsely : Prop := checkReckonsRow.holds Try.pinned (OpenSpec.ofChange checkReckonsWrong)

/-- 'remontoirlaw02.CheckSums': WHATEVER THE INPUT: true; the input reads as it did. -/
def checkSumsSpec : ChangeSpec := { name := "checkSums", fn := fun _ => fun
  | [d] => { results := [.lit (.bool true)], args := [d] }
  | _ => none }
def checkSumsRow : OpenClaim := { program := "ytgcpfmdldgmbnaa", sum := "e3fab364a4b131b9bf45c42d8f17cba75da0b5c002bac982a488380a3a332919", func := "remontoir/remontoirlaw02.CheckSums", spec := "checkSums", unfollowed := true, recurses := true, apart := false }
def CheckSumsSaid : Prop := checkSumsRow.holds Try.pinned (OpenSpec.ofChange checkSumsSpec)

/-- ITS FALSE NEIGHBOUR: 'it returns false'. Refute it at one input. -/
def checkSumsWrong : ChangeSpec := { name := "checkSums", fn := fun _ => fun
  | [d] => { results := [.lit (.bool false)], args := [d] }
  | _ => none }
def CheckSumsWrongFalsely : Prop := checkSumsRow.holds Try.pinned (OpenSpec.ofChange checkSumsWrong)

/-- 'remontoirlaw07.HeaderReads': WHATEVER THE INPUT: true; the input reads as it did. -/
def headerReadsSpec : ChangeSpec := { name := "headerReads", fn := fun _ => fun
  | [d] => { results := [.lit (.bool true)], args := [d] }
  | _ => none }
def headerReadsRow : OpenClaim := { program := "ytgcpfmdldgmbnaa", sum := "e3fab364a4b131b9bf45c42d8f17cba75da0b5c002bac982a488380a3a332919", func := "remontoir/remontoirlaw07.HeaderReads", spec := "headerReads", unfollowed := true, recurses := true, apart := false }
def HeaderReadsSaid : Prop := headerReadsRow.holds Try.pinned (OpenSpec.ofChange headerReadsSpec)

/-- ITS FALSE NEIGHBOUR: 'it returns false'. Refute it at one input. -/
def headerReadsWrong : ChangeSpec := { name := "headerReads", fn := fun _ => fun
  | [d] => { results := [.lit (.bool false)], args := [d] }
  | _ => none }
def HeaderReadsWrongFalsely : Prop := headerReadsRow.holds Try.pinned (OpenSpec.ofChange headerReadsWrong)

/-- 'remontoirlaw07.HeaderWrites': WHATEVER THE INPUT: true; the input reads as it did. -/
def headerWritesSpec : ChangeSpec := { name := "headerWrites", fn := fun _ => fun
  | [d] => { results := [.lit (.bool true)], args := [d] }
  | _ => none }
def headerWritesRow : OpenClaim := { program := "ytgcpfmdldgmbnaa", sum := "e3fab364a4b131b9bf45c42d8f17cba75da0b5c002bac982a488380a3a332919", func := "remontoir/remontoirlaw07.HeaderWrites", spec := "headerWrites", unfollowed := true, recurses := true, apart := false }
def HeaderWritesSaid : Prop := headerWritesRow.holds Try.pinned (OpenSpec.ofChange headerWritesSpec)

/-- ITS FALSE NEIGHBOUR: 'it returns false'. Refute it at one input. -/
def headerWritesWrong : ChangeSpec := { name := "headerWrites", fn := fun _ => fun
  | [d] => { results := [.lit (.bool false)], args := [d] }
  | _ => none }
def HeaderWritesWrongFalsely : Prop := headerWritesRow.holds Try.pinned (OpenSpec.ofChange headerWritesWrong)

/-- 'remontoirlaw07.HeaderCut': WHATEVER THE INPUT: true; the input reads as it did. -/
def headerCutSpec : ChangeSpec := { name := "headerCut", fn := fun _ => fun
  | [d1, d2, d3] => { results := [.lit (.bool true)], args := [d1, d2, d3] }
  | _ => none }
def headerCutRow : OpenClaim := { program := "ytgcpfmdldgmbnaa", sum := "e3fab364a4b131b9bf45c42d8f17cba75da0b5c002bac982a488380a3a332919", func := "remontoir/remontoirlaw07.HeaderCut", spec := "headerCut", unfollowed := true, recurses := true, apart := false }
def HeaderCutSaid : Prop := headerCutRow.holds Try.pinned (OpenSpec.ofChange headerCutSpec)

/-- ITS FALSE NEIGHBOUR: 'it returns false'. Refute it at one input. -/
def headerCutWrong : ChangeSpec := { name := "headerCut", fn := fun _ => fun
  | [d1, d2, d3] => { results := [.lit (.bool false)], args := [d1, d2, d3] }
  | _ => none }
def HeaderCutWrongFalsely : Prop := headerCutRow.holds Try.pinned (OpenSpec.ofChange headerCutWrong)

/- THE SECOND FORM. 'bulk': how many values and letters a reading holds, each counted each time it is reached (what is shared counts as often as it is met; a slice's spare places count too). A statement '..UptoSaid' is the law's where the arguments, and the package variables that the reading takes, are together of bulk at most 1048576: NARROWER than '..Said'. Prove '..Said' where nothing that the law and all that it calls make is longer than what came in: it says more and counts as full. Else prove '..UptoSaid'. A law counts once. -/
mutual
def uptoBulk {H : Type} : DataW H → Nat
  | .lit (.string bytes) => bytes.length + 1
  | .lit _ => 1
  | .nil => 1
  | .ptr d => uptoBulk d + 1
  | .slice elems spare => uptoBulkAll elems + uptoBulkAll spare + 1
  | .agg parts => uptoBulkAll parts + 1
  | .iface _ d => uptoBulk d + 1
  | .map entries => uptoBulkEntries entries + 1
  | .held _ => 1
def uptoBulkAll {H : Type} : List (DataW H) → Nat
  | [] => 0
  | d :: r => uptoBulk d + uptoBulkAll r
def uptoBulkEntries {H : Type} : List (Lit × DataW H) → Nat
  | [] => 0
  | x :: r => uptoBulkEntry x + uptoBulkEntries r
def uptoBulkEntry {H : Type} : Lit × DataW H → Nat
  | (.string bytes, d) => bytes.length + uptoBulk d + 1
  | (_, d) => uptoBulk d + 1
 end
def uptoSmall : (H : Type) → List (DataW H) → Bool := fun _ ds => decide (uptoBulkAll ds ≤ 1048576)
def OpenSpec.upto (s : _root_.Go.ChangeSpec) : _root_.Go.OpenSpec := { _root_.Go.OpenSpec.ofChange s with cond := some uptoSmall }

/-- 'remontoirlaw05.PairKeeps', WHERE WHAT IT READS IS OF BULK AT MOST 1048576: true; the input reads as it did. -/
def pairKeepsUptoRow : OpenClaim := { program := "ytgcpfmdldgmbnaa", sum := "e3fab364a4b131b9bf45c42d8f17cba75da0b5c002bac982a488380a3a332919", func := "remontoir/remontoirlaw05.PairKeeps", spec := "pairKeeps", apart := false, narrowed := true }
def PairKeepsUptoSaid : Prop := pairKeepsUptoRow.holds Try.pinned (OpenSpec.upto pairKeepsSpec)

/-- 'remontoirlaw05.PairTells', WHERE WHAT IT READS IS OF BULK AT MOST 1048576: true; the input reads as it did. -/
def pairTellsUptoRow : OpenClaim := { program := "ytgcpfmdldgmbnaa", sum := "e3fab364a4b131b9bf45c42d8f17cba75da0b5c002bac982a488380a3a332919", func := "remontoir/remontoirlaw05.PairTells", spec := "pairTells", apart := false, narrowed := true }
def PairTellsUptoSaid : Prop := pairTellsUptoRow.holds Try.pinned (OpenSpec.upto pairTellsSpec)

/-- 'remontoirlaw05.PairMasks', WHERE WHAT IT READS IS OF BULK AT MOST 1048576: true; the input reads as it did. -/
def pairMasksUptoRow : OpenClaim := { program := "ytgcpfmdldgmbnaa", sum := "e3fab364a4b131b9bf45c42d8f17cba75da0b5c002bac982a488380a3a332919", func := "remontoir/remontoirlaw05.PairMasks", spec := "pairMasks", apart := false, narrowed := true }
def PairMasksUptoSaid : Prop := pairMasksUptoRow.holds Try.pinned (OpenSpec.upto pairMasksSpec)

/-- 'remontoirlaw04.CrcBit', WHERE WHAT IT READS IS OF BULK AT MOST 1048576: true; the input reads as it did. -/
def crcBitUptoRow : OpenClaim := { program := "ytgcpfmdldgmbnaa", sum := "e3fab364a4b131b9bf45c42d8f17cba75da0b5c002bac982a488380a3a332919", func := "remontoir/remontoirlaw04.CrcBit", spec := "crcBit", apart := false, narrowed := true }
def CrcBitUptoSaid : Prop := crcBitUptoRow.holds Try.pinned (OpenSpec.upto crcBitSpec)

/-- 'remontoirlaw04.CrcAdds', WHERE WHAT IT READS IS OF BULK AT MOST 1048576: true; the input reads as it did. -/
def crcAddsUptoRow : OpenClaim := { program := "ytgcpfmdldgmbnaa", sum := "e3fab364a4b131b9bf45c42d8f17cba75da0b5c002bac982a488380a3a332919", func := "remontoir/remontoirlaw04.CrcAdds", spec := "crcAdds", apart := false, narrowed := true }
def CrcAddsUptoSaid : Prop := crcAddsUptoRow.holds Try.pinned (OpenSpec.upto crcAddsSpec)

/-- 'remontoirlaw04.CrcSums', WHERE WHAT IT READS IS OF BULK AT MOST 1048576: true; the input reads as it did. -/
def crcSumsUptoRow : OpenClaim := { program := "ytgcpfmdldgmbnaa", sum := "e3fab364a4b131b9bf45c42d8f17cba75da0b5c002bac982a488380a3a332919", func := "remontoir/remontoirlaw04.CrcSums", spec := "crcSums", apart := false, narrowed := true }
def CrcSumsUptoSaid : Prop := crcSumsUptoRow.holds Try.pinned (OpenSpec.upto crcSumsSpec)

/-- 'remontoirlaw02.CheckDivides', WHERE WHAT IT READS IS OF BULK AT MOST 1048576: true; the input reads as it did. -/
def checkDividesUptoRow : OpenClaim := { program := "ytgcpfmdldgmbnaa", sum := "e3fab364a4b131b9bf45c42d8f17cba75da0b5c002bac982a488380a3a332919", func := "remontoir/remontoirlaw02.CheckDivides", spec := "checkDivides", apart := false, narrowed := true }
def CheckDividesUptoSaid : Prop := checkDividesUptoRow.holds Try.pinned (OpenSpec.upto checkDividesSpec)

/-- 'remontoirlaw02.CheckReckons', WHERE WHAT IT READS IS OF BULK AT MOST 1048576: true; the input reads as it did. -/
def checkReckonsUptoRow : OpenClaim := { program := "ytgcpfmdldgmbnaa", sum := "e3fab364a4b131b9bf45c42d8f17cba75da0b5c002bac982a488380a3a332919", func := "remontoir/remontoirlaw02.CheckReckons", spec := "checkReckons", apart := false, narrowed := true }
def CheckReckonsUptoSaid : Prop := checkReckonsUptoRow.holds Try.pinned (OpenSpec.upto checkReckonsSpec)

/-- 'remontoirlaw02.CheckSums', WHERE WHAT IT READS IS OF BULK AT MOST 1048576: true; the input reads as it did. -/
def checkSumsUptoRow : OpenClaim := { program := "ytgcpfmdldgmbnaa", sum := "e3fab364a4b131b9bf45c42d8f17cba75da0b5c002bac982a488380a3a332919", func := "remontoir/remontoirlaw02.CheckSums", spec := "checkSums", unfollowed := true, recurses := true, apart := false, narrowed := true }
def CheckSumsUptoSaid : Prop := checkSumsUptoRow.holds Try.pinned (OpenSpec.upto checkSumsSpec)

/-- 'remontoirlaw07.HeaderReads', WHERE WHAT IT READS IS OF BULK AT MOST 1048576: true; the input reads as it did. -/
def headerReadsUptoRow : OpenClaim := { program := "ytgcpfmdldgmbnaa", sum := "e3fab364a4b131b9bf45c42d8f17cba75da0b5c002bac982a488380a3a332919", func := "remontoir/remontoirlaw07.HeaderReads", spec := "headerReads", unfollowed := true, recurses := true, apart := false, narrowed := true }
def HeaderReadsUptoSaid : Prop := headerReadsUptoRow.holds Try.pinned (OpenSpec.upto headerReadsSpec)

/-- 'remontoirlaw07.HeaderWrites', WHERE WHAT IT READS IS OF BULK AT MOST 1048576: true; the input reads as it did. -/
def headerWritesUptoRow : OpenClaim := { program := "ytgcpfmdldgmbnaa", sum := "e3fab364a4b131b9bf45c42d8f17cba75da0b5c002bac982a488380a3a332919", func := "remontoir/remontoirlaw07.HeaderWrites", spec := "headerWrites", unfollowed := true, recurses := true, apart := false, narrowed := true }
def HeaderWritesUptoSaid : Prop := headerWritesUptoRow.holds Try.pinned (OpenSpec.upto headerWritesSpec)

/-- 'remontoirlaw07.HeaderCut', WHERE WHAT IT READS IS OF BULK AT MOST 1048576: true; the input reads as it did. -/
def headerCutUptoRow : OpenClaim := { program := "ytgcpfmdldgmbnaa", sum := "e3fab364a4b131b9bf45c42d8f17cba75da0b5c002bac982a488380a3a332919", func := "remontoir/remontoirlaw07.HeaderCut", spec := "headerCut", unfollowed := true, recurses := true, apart := false, narrowed := true }
def HeaderCutUptoSaid : Prop := headerCutUptoRow.holds Try.pinned (OpenSpec.upto headerCutSpec)

end Rows
end Go.Proofs.Ytgcpfmdldgmbnaa
