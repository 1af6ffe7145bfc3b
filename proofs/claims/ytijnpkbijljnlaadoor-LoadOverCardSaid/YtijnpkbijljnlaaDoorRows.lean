/-
  NARROWER THAN 'FOR EVERY INPUT', by the rows' own cells (each row's printed sentence says how): DemandTerms: laid · LoadRounds: laid · LoadExact: laid · LoadOver: laid · LoadLess: laid.
  DERIVED. THE GIVEN ROWS OF THIS SEAT. 5 by the template 'for every input the law returns true; each argument reads behind the call as it read before'; 0 by the template 'total and deterministic' (their statements: YtijnpkbijljnlaaDoorTotals.lean).
  GIVEN WITH THE SEED: the statements are not yours to turn. If you find one false, say at which input.
  Laid BY PROGRAM, IN A SANDBOX (cutbox-rows.mjs): the forced cells as the released guide's own fill.sh prints them over the translation 774e7346e1ef571c… (all of the seat's roots in one cut). By AI agents, Wed Nov 11 2026. No macro, syntax, notation, axiom, sorry.
-/
import Derived.Test.YtijnpkbijljnlaaDoorChecked
import GoSem.Claim
import GoSem.ClaimJoined
import GoSem.ClaimMapViews
import Derived.JoinedTies
import Derived.KernelRfl
namespace Go.Proofs.YtijnpkbijljnlaaDoor
/- THE CELL 'sum', in the pinned program and in every row, IS THE sha256 OF THE DUMP (.gsa) THAT YtijnpkbijljnlaaDoorProg.lean LOADS. Nothing in Lean hashes anything: it is a label: what it is worth is what the hold of that sum in a sandbox is worth. -/
noncomputable def Tryd.pinned : Pinned := { name := "ytijnpkbijljnlaadoor", sum := "774e7346e1ef571c8113839e537fc845a0d7826080c6467f4ddef0ec4dfca6fb", checked := Tryd.checked }
namespace Rows
def none {H : Type} : Left H := { results := [], args := [] }

/- WHAT THE LISTED PACKAGE-LEVEL VARIABLES READ AS WHEN THE CALL BEGINS. Each datum BY PROGRAM (the guide's laid-datum.mjs) off the statement by which the dump's own 'gosem.cut.vars' lays the variable. In a bare row this is a premise. The card (YtijnpkbijljnlaaDoorCards.lean) ties it to the program's text. -/
def laid_math_bits_deBruijn32tab {H : Type} : DataW H := .agg [.lit (.int .u8 0), .lit (.int .u8 1), .lit (.int .u8 28), .lit (.int .u8 2), .lit (.int .u8 29), .lit (.int .u8 14), .lit (.int .u8 24), .lit (.int .u8 3), .lit (.int .u8 30), .lit (.int .u8 22), .lit (.int .u8 20), .lit (.int .u8 15), .lit (.int .u8 25), .lit (.int .u8 17), .lit (.int .u8 4), .lit (.int .u8 8), .lit (.int .u8 31), .lit (.int .u8 27), .lit (.int .u8 13), .lit (.int .u8 23), .lit (.int .u8 21), .lit (.int .u8 19), .lit (.int .u8 16), .lit (.int .u8 7), .lit (.int .u8 26), .lit (.int .u8 12), .lit (.int .u8 18), .lit (.int .u8 6), .lit (.int .u8 11), .lit (.int .u8 5), .lit (.int .u8 10), .lit (.int .u8 9)]

/-- 'remontoirlaw16.DemandTerms': WHATEVER THE INPUT: true; the input reads as it did. -/
def demandTermsSpec : ChangeSpec := { name := "demandTerms", fn := fun _ => fun
  | [d1, d2, d3] => { results := [.lit (.bool true)], args := [d1, d2, d3] }
  | _ => none }
def demandTermsRow : OpenClaim := { program := "ytijnpkbijljnlaadoor", sum := "774e7346e1ef571c8113839e537fc845a0d7826080c6467f4ddef0ec4dfca6fb", func := "remontoir/remontoirlaw16.DemandTerms", spec := "demandTerms", unfollowed := true, recurses := true, named := ["math/bits.deBruijn32tab"], apart := false, laid := [("math/bits.deBruijn32tab", laid_math_bits_deBruijn32tab)] }
def DemandTermsSaid : Prop := demandTermsRow.holds Tryd.pinned (OpenSpec.ofChange demandTermsSpec)

/-- ITS FALSE NEIGHBOUR: 'it returns false'. Refute it at one input. -/
def demandTermsWrong : ChangeSpec := { name := "demandTerms", fn := fun _ => fun
  | [d1, d2, d3] => { results := [.lit (.bool false)], args := [d1, d2, d3] }
  | _ => none }
def DemandTermsWrongFalsely : Prop := demandTermsRow.holds Tryd.pinned (OpenSpec.ofChange demandTermsWrong)

/-- 'remontoirlaw37.LoadRounds': WHATEVER THE INPUT: true; the input reads as it did. -/
def loadRoundsSpec : ChangeSpec := { name := "loadRounds", fn := fun _ => fun
  | [d1, d2] => { results := [.lit (.bool true)], args := [d1, d2] }
  | _ => none }
def loadRoundsRow : OpenClaim := { program := "ytijnpkbijljnlaadoor", sum := "774e7346e1ef571c8113839e537fc845a0d7826080c6467f4ddef0ec4dfca6fb", func := "remontoir/remontoirlaw37.LoadRounds", spec := "loadRounds", unfollowed := true, recurses := true, named := ["math/bits.deBruijn32tab"], apart := false, laid := [("math/bits.deBruijn32tab", laid_math_bits_deBruijn32tab)] }
def LoadRoundsSaid : Prop := loadRoundsRow.holds Tryd.pinned (OpenSpec.ofChange loadRoundsSpec)

/-- ITS FALSE NEIGHBOUR: 'it returns false'. Refute it at one input. -/
def loadRoundsWrong : ChangeSpec := { name := "loadRounds", fn := fun _ => fun
  | [d1, d2] => { results := [.lit (.bool false)], args := [d1, d2] }
  | _ => none }
def LoadRoundsWrongFalsely : Prop := loadRoundsRow.holds Tryd.pinned (OpenSpec.ofChange loadRoundsWrong)

/-- 'remontoirlaw37.LoadExact': WHATEVER THE INPUT: true; the input reads as it did. -/
def loadExactSpec : ChangeSpec := { name := "loadExact", fn := fun _ => fun
  | [d1, d2] => { results := [.lit (.bool true)], args := [d1, d2] }
  | _ => none }
def loadExactRow : OpenClaim := { program := "ytijnpkbijljnlaadoor", sum := "774e7346e1ef571c8113839e537fc845a0d7826080c6467f4ddef0ec4dfca6fb", func := "remontoir/remontoirlaw37.LoadExact", spec := "loadExact", unfollowed := true, recurses := true, named := ["math/bits.deBruijn32tab"], apart := false, laid := [("math/bits.deBruijn32tab", laid_math_bits_deBruijn32tab)] }
def LoadExactSaid : Prop := loadExactRow.holds Tryd.pinned (OpenSpec.ofChange loadExactSpec)

/-- ITS FALSE NEIGHBOUR: 'it returns false'. Refute it at one input. -/
def loadExactWrong : ChangeSpec := { name := "loadExact", fn := fun _ => fun
  | [d1, d2] => { results := [.lit (.bool false)], args := [d1, d2] }
  | _ => none }
def LoadExactWrongFalsely : Prop := loadExactRow.holds Tryd.pinned (OpenSpec.ofChange loadExactWrong)

/-- 'remontoirlaw37.LoadOver': WHATEVER THE INPUT: true; the input reads as it did. -/
def loadOverSpec : ChangeSpec := { name := "loadOver", fn := fun _ => fun
  | [d1, d2] => { results := [.lit (.bool true)], args := [d1, d2] }
  | _ => none }
def loadOverRow : OpenClaim := { program := "ytijnpkbijljnlaadoor", sum := "774e7346e1ef571c8113839e537fc845a0d7826080c6467f4ddef0ec4dfca6fb", func := "remontoir/remontoirlaw37.LoadOver", spec := "loadOver", unfollowed := true, recurses := true, named := ["math/bits.deBruijn32tab"], apart := false, laid := [("math/bits.deBruijn32tab", laid_math_bits_deBruijn32tab)] }
def LoadOverSaid : Prop := loadOverRow.holds Tryd.pinned (OpenSpec.ofChange loadOverSpec)

/-- ITS FALSE NEIGHBOUR: 'it returns false'. Refute it at one input. -/
def loadOverWrong : ChangeSpec := { name := "loadOver", fn := fun _ => fun
  | [d1, d2] => { results := [.lit (.bool false)], args := [d1, d2] }
  | _ => none }
def LoadOverWrongFalsely : Prop := loadOverRow.holds Tryd.pinned (OpenSpec.ofChange loadOverWrong)

/-- 'remontoirlaw37.LoadLess': WHATEVER THE INPUT: true; the input reads as it did. -/
def loadLessSpec : ChangeSpec := { name := "loadLess", fn := fun _ => fun
  | [d1, d2] => { results := [.lit (.bool true)], args := [d1, d2] }
  | _ => none }
def loadLessRow : OpenClaim := { program := "ytijnpkbijljnlaadoor", sum := "774e7346e1ef571c8113839e537fc845a0d7826080c6467f4ddef0ec4dfca6fb", func := "remontoir/remontoirlaw37.LoadLess", spec := "loadLess", unfollowed := true, recurses := true, named := ["math/bits.deBruijn32tab"], apart := false, laid := [("math/bits.deBruijn32tab", laid_math_bits_deBruijn32tab)] }
def LoadLessSaid : Prop := loadLessRow.holds Tryd.pinned (OpenSpec.ofChange loadLessSpec)

/-- ITS FALSE NEIGHBOUR: 'it returns false'. Refute it at one input. -/
def loadLessWrong : ChangeSpec := { name := "loadLess", fn := fun _ => fun
  | [d1, d2] => { results := [.lit (.bool false)], args := [d1, d2] }
  | _ => none }
def LoadLessWrongFalsely : Prop := loadLessRow.holds Tryd.pinned (OpenSpec.ofChange loadLessWrong)

/- THE SECOND FORM. 'bulk': how many values and letters a reading holds, each counted each time it is reached (what is shared counts as often as it is met; a slice's spare places count too). A statement '..UptoSaid' is the law's where the arguments, and the package variables that the reading takes, are together of bulk at most 1048576: NARROWER than '..Said'. Prove '..Said' where nothing that the law and all that it calls make is longer than what came in: it says more and counts as full. Else prove '..UptoSaid'. A law counts once. -/
mutual
def uptoBulk {H : Type} : DataW H → Nat
  | .lit (.string bytes) => bytes.length + 1
  | .lit _ => 1
  | .nil => 1
  | .ptr d => uptoBulk d + 1
  | .slice elems spare => uptoBulkAll elems + uptoBulkAll spare + 1
  | .agg parts => uptoBulkAll parts + 1
  | .iface _ d => uptoBulk d + 1
  | .map entries => uptoBulkEntries entries + 1
  | .held _ => 1
def uptoBulkAll {H : Type} : List (DataW H) → Nat
  | [] => 0
  | d :: r => uptoBulk d + uptoBulkAll r
def uptoBulkEntries {H : Type} : List (Lit × DataW H) → Nat
  | [] => 0
  | x :: r => uptoBulkEntry x + uptoBulkEntries r
def uptoBulkEntry {H : Type} : Lit × DataW H → Nat
  | (.string bytes, d) => bytes.length + uptoBulk d + 1
  | (_, d) => uptoBulk d + 1
 end
def uptoSmall : (H : Type) → List (DataW H) → Bool := fun _ ds => decide (uptoBulkAll ds ≤ 1048576)
def OpenSpec.upto (s : _root_.Go.ChangeSpec) : _root_.Go.OpenSpec := { _root_.Go.OpenSpec.ofChange s with cond := some uptoSmall }

/-- 'remontoirlaw16.DemandTerms', WHERE WHAT IT READS IS OF BULK AT MOST 1048576: true; the input reads as it did. -/
def demandTermsUptoRow : OpenClaim := { program := "ytijnpkbijljnlaadoor", sum := "774e7346e1ef571c8113839e537fc845a0d7826080c6467f4ddef0ec4dfca6fb", func := "remontoir/remontoirlaw16.DemandTerms", spec := "demandTerms", unfollowed := true, recurses := true, named := ["math/bits.deBruijn32tab"], apart := false, laid := [("math/bits.deBruijn32tab", laid_math_bits_deBruijn32tab)], narrowed := true }
def DemandTermsUptoSaid : Prop := demandTermsUptoRow.holds Tryd.pinned (OpenSpec.upto demandTermsSpec)

/-- 'remontoirlaw37.LoadRounds', WHERE WHAT IT READS IS OF BULK AT MOST 1048576: true; the input reads as it did. -/
def loadRoundsUptoRow : OpenClaim := { program := "ytijnpkbijljnlaadoor", sum := "774e7346e1ef571c8113839e537fc845a0d7826080c6467f4ddef0ec4dfca6fb", func := "remontoir/remontoirlaw37.LoadRounds", spec := "loadRounds", unfollowed := true, recurses := true, named := ["math/bits.deBruijn32tab"], apart := false, laid := [("math/bits.deBruijn32tab", laid_math_bits_deBruijn32tab)], narrowed := true }
def LoadRoundsUptoSaid : Prop := loadRoundsUptoRow.holds Tryd.pinned (OpenSpec.upto loadRoundsSpec)

/-- 'remontoirlaw37.LoadExact', WHERE WHAT IT READS IS OF BULK AT MOST 1048576: true; the input reads as it did. -/
def loadExactUptoRow : OpenClaim := { program := "ytijnpkbijljnlaadoor", sum := "774e7346e1ef571c8113839e537fc845a0d7826080c6467f4ddef0ec4dfca6fb", func := "remontoir/remontoirlaw37.LoadExact", spec := "loadExact", unfollowed := true, recurses := true, named := ["math/bits.deBruijn32tab"], apart := false, laid := [("math/bits.deBruijn32tab", laid_math_bits_deBruijn32tab)], narrowed := true }
def LoadExactUptoSaid : Prop := loadExactUptoRow.holds Tryd.pinned (OpenSpec.upto loadExactSpec)

/-- 'remontoirlaw37.LoadOver', WHERE WHAT IT READS IS OF BULK AT MOST 1048576: true; the input reads as it did. -/
def loadOverUptoRow : OpenClaim := { program := "ytijnpkbijljnlaadoor", sum := "774e7346e1ef571c8113839e537fc845a0d7826080c6467f4ddef0ec4dfca6fb", func := "remontoir/remontoirlaw37.LoadOver", spec := "loadOver", unfollowed := true, recurses := true, named := ["math/bits.deBruijn32tab"], apart := false, laid := [("math/bits.deBruijn32tab", laid_math_bits_deBruijn32tab)], narrowed := true }
def LoadOverUptoSaid : Prop := loadOverUptoRow.holds Tryd.pinned (OpenSpec.upto loadOverSpec)

/-- 'remontoirlaw37.LoadLess', WHERE WHAT IT READS IS OF BULK AT MOST 1048576: true; the input reads as it did. -/
def loadLessUptoRow : OpenClaim := { program := "ytijnpkbijljnlaadoor", sum := "774e7346e1ef571c8113839e537fc845a0d7826080c6467f4ddef0ec4dfca6fb", func := "remontoir/remontoirlaw37.LoadLess", spec := "loadLess", unfollowed := true, recurses := true, named := ["math/bits.deBruijn32tab"], apart := false, laid := [("math/bits.deBruijn32tab", laid_math_bits_deBruijn32tab)], narrowed := true }
def LoadLessUptoSaid : Prop := loadLessUptoRow.holds Tryd.pinned (OpenSpec.upto loadLessSpec)

end Rows
end Go.Proofs.YtijnpkbijljnlaaDoor
