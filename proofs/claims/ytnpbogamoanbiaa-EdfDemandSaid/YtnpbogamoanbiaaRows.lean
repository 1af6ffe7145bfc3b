/-
  No cell of these rows narrows 'for every input' (looked for: loops, veiled, ifaces, maps, wideKeys, modest, calm, conditions, laid).
  DERIVED. THE GIVEN ROWS OF THIS SEAT. 4 by the template 'for every input the law returns true; each argument reads behind the call as it read before'; 0 by the template 'total and deterministic' (their statements: YtnpbogamoanbiaaTotals.lean).
  GIVEN WITH THE SEED: the statements are not yours to turn. If you find one false, say at which input.
  Laid BY PROGRAM, IN A SANDBOX (cutbox-rows.mjs): the forced cells as the released guide's own fill.sh prints them over the translation f81fcce1c0639469… (all of the seat's roots in one cut). By AI agents, Wed Nov 11 2026. No macro, syntax, notation, axiom, sorry.
-/
import Derived.Test.YtnpbogamoanbiaaChecked
import GoSem.Claim
import GoSem.ClaimJoined
import GoSem.ClaimMapViews
import Derived.JoinedTies
import Derived.KernelRfl
namespace Go.Proofs.Ytnpbogamoanbiaa
/- THE CELL 'sum', in the pinned program and in every row, IS THE sha256 OF THE DUMP (.gsa) THAT YtnpbogamoanbiaaProg.lean LOADS. Nothing in Lean hashes anything: it is a label: what it is worth is what the hold of that sum in a sandbox is worth. -/
noncomputable def Try.pinned : Pinned := { name := "ytnpbogamoanbiaa", sum := "f81fcce1c06394691f05d9d6a0a71c82d52ca1ce564b6bb6c1bd337930ddf90a", checked := Try.checked }
namespace Rows
def none {H : Type} : Left H := { results := [], args := [] }

/-- 'remontoirlaw46.EdfDemand': WHATEVER THE INPUT: true; the input reads as it did. -/
def edfDemandSpec : ChangeSpec := { name := "edfDemand", fn := fun _ => fun
  | [d1, d2] => { results := [.lit (.bool true)], args := [d1, d2] }
  | _ => none }
def edfDemandRow : OpenClaim := { program := "ytnpbogamoanbiaa", sum := "f81fcce1c06394691f05d9d6a0a71c82d52ca1ce564b6bb6c1bd337930ddf90a", func := "remontoir/remontoirlaw46.EdfDemand", spec := "edfDemand", unfollowed := true, recurses := true, apart := false }
def EdfDemandSaid : Prop := edfDemandRow.holds Try.pinned (OpenSpec.ofChange edfDemandSpec)

/-- ITS FALSE NEIGHBOUR: 'it returns false'. Refute it at one input. -/
def edfDemandWrong : ChangeSpec := { name := "edfDemand", fn := fun _ => fun
  | [d1, d2] => { results := [.lit (.bool false)], args := [d1, d2] }
  | _ => none }
def EdfDemandWrongFalsely : Prop := edfDemandRow.holds Try.pinned (OpenSpec.ofChange edfDemandWrong)

/-- 'remontoirlaw46.EdfAll': WHATEVER THE INPUT: true; the input reads as it did. -/
def edfAllSpec : ChangeSpec := { name := "edfAll", fn := fun _ => fun
  | [d1, d2] => { results := [.lit (.bool true)], args := [d1, d2] }
  | _ => none }
def edfAllRow : OpenClaim := { program := "ytnpbogamoanbiaa", sum := "f81fcce1c06394691f05d9d6a0a71c82d52ca1ce564b6bb6c1bd337930ddf90a", func := "remontoir/remontoirlaw46.EdfAll", spec := "edfAll", unfollowed := true, recurses := true, apart := false }
def EdfAllSaid : Prop := edfAllRow.holds Try.pinned (OpenSpec.ofChange edfAllSpec)

/-- ITS FALSE NEIGHBOUR: 'it returns false'. Refute it at one input. -/
def edfAllWrong : ChangeSpec := { name := "edfAll", fn := fun _ => fun
  | [d1, d2] => { results := [.lit (.bool false)], args := [d1, d2] }
  | _ => none }
def EdfAllWrongFalsely : Prop := edfAllRow.holds Try.pinned (OpenSpec.ofChange edfAllWrong)

/-- 'remontoirlaw46.EdfFits': WHATEVER THE INPUT: true; the input reads as it did. -/
def edfFitsSpec : ChangeSpec := { name := "edfFits", fn := fun _ => fun
  | [d] => { results := [.lit (.bool true)], args := [d] }
  | _ => none }
def edfFitsRow : OpenClaim := { program := "ytnpbogamoanbiaa", sum := "f81fcce1c06394691f05d9d6a0a71c82d52ca1ce564b6bb6c1bd337930ddf90a", func := "remontoir/remontoirlaw46.EdfFits", spec := "edfFits", unfollowed := true, recurses := true, apart := false }
def EdfFitsSaid : Prop := edfFitsRow.holds Try.pinned (OpenSpec.ofChange edfFitsSpec)

/-- ITS FALSE NEIGHBOUR: 'it returns false'. Refute it at one input. -/
def edfFitsWrong : ChangeSpec := { name := "edfFits", fn := fun _ => fun
  | [d] => { results := [.lit (.bool false)], args := [d] }
  | _ => none }
def EdfFitsWrongFalsely : Prop := edfFitsRow.holds Try.pinned (OpenSpec.ofChange edfFitsWrong)

/-- 'remontoirlaw46.EdfBest': WHATEVER THE INPUT: true; the input reads as it did. -/
def edfBestSpec : ChangeSpec := { name := "edfBest", fn := fun _ => fun
  | [d] => { results := [.lit (.bool true)], args := [d] }
  | _ => none }
def edfBestRow : OpenClaim := { program := "ytnpbogamoanbiaa", sum := "f81fcce1c06394691f05d9d6a0a71c82d52ca1ce564b6bb6c1bd337930ddf90a", func := "remontoir/remontoirlaw46.EdfBest", spec := "edfBest", unfollowed := true, recurses := true, apart := false }
def EdfBestSaid : Prop := edfBestRow.holds Try.pinned (OpenSpec.ofChange edfBestSpec)

/-- ITS FALSE NEIGHBOUR: 'it returns false'. Refute it at one input. -/
def edfBestWrong : ChangeSpec := { name := "edfBest", fn := fun _ => fun
  | [d] => { results := [.lit (.bool false)], args := [d] }
  | _ => none }
def EdfBestWrongFalsely : Prop := edfBestRow.holds Try.pinned (OpenSpec.ofChange edfBestWrong)

/- THE SECOND FORM. 'bulk': how many values and letters a reading holds, each counted each time it is reached (what is shared counts as often as it is met; a slice's spare places count too). A statement '..UptoSaid' is the law's where the arguments, and the package variables that the reading takes, are together of bulk at most 1048576: NARROWER than '..Said'. Prove '..Said' where nothing that the law and all that it calls make is longer than what came in: it says more and counts as full. Else prove '..UptoSaid'. A law counts once. -/
mutual
def uptoBulk {H : Type} : DataW H → Nat
  | .lit (.string bytes) => bytes.length + 1
  | .lit _ => 1
  | .nil => 1
  | .ptr d => uptoBulk d + 1
  | .slice elems spare => uptoBulkAll elems + uptoBulkAll spare + 1
  | .agg parts => uptoBulkAll parts + 1
  | .iface _ d => uptoBulk d + 1
  | .map entries => uptoBulkEntries entries + 1
  | .held _ => 1
def uptoBulkAll {H : Type} : List (DataW H) → Nat
  | [] => 0
  | d :: r => uptoBulk d + uptoBulkAll r
def uptoBulkEntries {H : Type} : List (Lit × DataW H) → Nat
  | [] => 0
  | x :: r => uptoBulkEntry x + uptoBulkEntries r
def uptoBulkEntry {H : Type} : Lit × DataW H → Nat
  | (.string bytes, d) => bytes.length + uptoBulk d + 1
  | (_, d) => uptoBulk d + 1
 end
def uptoSmall : (H : Type) → List (DataW H) → Bool := fun _ ds => decide (uptoBulkAll ds ≤ 1048576)
def OpenSpec.upto (s : _root_.Go.ChangeSpec) : _root_.Go.OpenSpec := { _root_.Go.OpenSpec.ofChange s with cond := some uptoSmall }

/-- 'remontoirlaw46.EdfDemand', WHERE WHAT IT READS IS OF BULK AT MOST 1048576: true; the input reads as it did. -/
def edfDemandUptoRow : OpenClaim := { program := "ytnpbogamoanbiaa", sum := "f81fcce1c06394691f05d9d6a0a71c82d52ca1ce564b6bb6c1bd337930ddf90a", func := "remontoir/remontoirlaw46.EdfDemand", spec := "edfDemand", unfollowed := true, recurses := true, apart := false, narrowed := true }
def EdfDemandUptoSaid : Prop := edfDemandUptoRow.holds Try.pinned (OpenSpec.upto edfDemandSpec)

/-- 'remontoirlaw46.EdfAll', WHERE WHAT IT READS IS OF BULK AT MOST 1048576: true; the input reads as it did. -/
def edfAllUptoRow : OpenClaim := { program := "ytnpbogamoanbiaa", sum := "f81fcce1c06394691f05d9d6a0a71c82d52ca1ce564b6bb6c1bd337930ddf90a", func := "remontoir/remontoirlaw46.EdfAll", spec := "edfAll", unfollowed := true, recurses := true, apart := false, narrowed := true }
def EdfAllUptoSaid : Prop := edfAllUptoRow.holds Try.pinned (OpenSpec.upto edfAllSpec)

/-- 'remontoirlaw46.EdfFits', WHERE WHAT IT READS IS OF BULK AT MOST 1048576: true; the input reads as it did. -/
def edfFitsUptoRow : OpenClaim := { program := "ytnpbogamoanbiaa", sum := "f81fcce1c06394691f05d9d6a0a71c82d52ca1ce564b6bb6c1bd337930ddf90a", func := "remontoir/remontoirlaw46.EdfFits", spec := "edfFits", unfollowed := true, recurses := true, apart := false, narrowed := true }
def EdfFitsUptoSaid : Prop := edfFitsUptoRow.holds Try.pinned (OpenSpec.upto edfFitsSpec)

/-- 'remontoirlaw46.EdfBest', WHERE WHAT IT READS IS OF BULK AT MOST 1048576: true; the input reads as it did. -/
def edfBestUptoRow : OpenClaim := { program := "ytnpbogamoanbiaa", sum := "f81fcce1c06394691f05d9d6a0a71c82d52ca1ce564b6bb6c1bd337930ddf90a", func := "remontoir/remontoirlaw46.EdfBest", spec := "edfBest", unfollowed := true, recurses := true, apart := false, narrowed := true }
def EdfBestUptoSaid : Prop := edfBestUptoRow.holds Try.pinned (OpenSpec.upto edfBestSpec)

end Rows
end Go.Proofs.Ytnpbogamoanbiaa
