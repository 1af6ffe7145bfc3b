/-
  No cell of these rows narrows 'for every input' (looked for: loops, veiled, ifaces, maps, wideKeys, modest, calm, conditions, laid).
  DERIVED. THE GIVEN ROWS OF THIS SEAT. 3 by the template 'for every input the law returns true; each argument reads behind the call as it read before'; 0 by the template 'total and deterministic' (their statements: YtmkpimdbmjpelaaTotals.lean).
  GIVEN WITH THE SEED: the statements are not yours to turn. If you find one false, say at which input.
  Laid BY PROGRAM, IN A SANDBOX (cutbox-rows.mjs): the forced cells as the released guide's own fill.sh prints them over the translation 96f454d29dfc8f15… (all of the seat's roots in one cut). By AI agents, Wed Nov 11 2026. No macro, syntax, notation, axiom, sorry.
-/
import Derived.Test.YtmkpimdbmjpelaaChecked
import GoSem.Claim
import GoSem.ClaimJoined
import GoSem.ClaimMapViews
import Derived.JoinedTies
import Derived.KernelRfl
namespace Go.Proofs.Ytmkpimdbmjpelaa
/- THE CELL 'sum', in the pinned program and in every row, IS THE sha256 OF THE DUMP (.gsa) THAT YtmkpimdbmjpelaaProg.lean LOADS. Nothing in Lean hashes anything: it is a label: what it is worth is what the hold of that sum in a sandbox is worth. -/
noncomputable def Try.pinned : Pinned := { name := "ytmkpimdbmjpelaa", sum := "96f454d29dfc8f1557d6583a7289e7978bca98a1105afabc2293e903cfae0ec0", checked := Try.checked }
namespace Rows
def none {H : Type} : Left H := { results := [], args := [] }

/-- 'remontoirlaw38.OpaBest': WHATEVER THE INPUT: true; the input reads as it did. -/
def opaBestSpec : ChangeSpec := { name := "opaBest", fn := fun _ => fun
  | [d] => { results := [.lit (.bool true)], args := [d] }
  | _ => none }
def opaBestRow : OpenClaim := { program := "ytmkpimdbmjpelaa", sum := "96f454d29dfc8f1557d6583a7289e7978bca98a1105afabc2293e903cfae0ec0", func := "remontoir/remontoirlaw38.OpaBest", spec := "opaBest", unfollowed := true, recurses := true, apart := false }
def OpaBestSaid : Prop := opaBestRow.holds Try.pinned (OpenSpec.ofChange opaBestSpec)

/-- ITS FALSE NEIGHBOUR: 'it returns false'. Refute it at one input. -/
def opaBestWrong : ChangeSpec := { name := "opaBest", fn := fun _ => fun
  | [d] => { results := [.lit (.bool false)], args := [d] }
  | _ => none }
def OpaBestWrongFalsely : Prop := opaBestRow.holds Try.pinned (OpenSpec.ofChange opaBestWrong)

/-- 'remontoirlaw29.MigrateMakes': WHATEVER THE INPUT: true; the input reads as it did. -/
def migrateMakesSpec : ChangeSpec := { name := "migrateMakes", fn := fun _ => fun
  | [d] => { results := [.lit (.bool true)], args := [d] }
  | _ => none }
def migrateMakesRow : OpenClaim := { program := "ytmkpimdbmjpelaa", sum := "96f454d29dfc8f1557d6583a7289e7978bca98a1105afabc2293e903cfae0ec0", func := "remontoir/remontoirlaw29.MigrateMakes", spec := "migrateMakes", unfollowed := true, recurses := true, apart := false }
def MigrateMakesSaid : Prop := migrateMakesRow.holds Try.pinned (OpenSpec.ofChange migrateMakesSpec)

/-- ITS FALSE NEIGHBOUR: 'it returns false'. Refute it at one input. -/
def migrateMakesWrong : ChangeSpec := { name := "migrateMakes", fn := fun _ => fun
  | [d] => { results := [.lit (.bool false)], args := [d] }
  | _ => none }
def MigrateMakesWrongFalsely : Prop := migrateMakesRow.holds Try.pinned (OpenSpec.ofChange migrateMakesWrong)

/-- 'remontoirlaw29.MigrateMoves': WHATEVER THE INPUT: true; the input reads as it did. -/
def migrateMovesSpec : ChangeSpec := { name := "migrateMoves", fn := fun _ => fun
  | [d1, d2, d3] => { results := [.lit (.bool true)], args := [d1, d2, d3] }
  | _ => none }
def migrateMovesRow : OpenClaim := { program := "ytmkpimdbmjpelaa", sum := "96f454d29dfc8f1557d6583a7289e7978bca98a1105afabc2293e903cfae0ec0", func := "remontoir/remontoirlaw29.MigrateMoves", spec := "migrateMoves", unfollowed := true, recurses := true, apart := false }
def MigrateMovesSaid : Prop := migrateMovesRow.holds Try.pinned (OpenSpec.ofChange migrateMovesSpec)

/-- ITS FALSE NEIGHBOUR: 'it returns false'. Refute it at one input. -/
def migrateMovesWrong : ChangeSpec := { name := "migrateMoves", fn := fun _ => fun
  | [d1, d2, d3] => { results := [.lit (.bool false)], args := [d1, d2, d3] }
  | _ => none }
def MigrateMovesWrongFalsely : Prop := migrateMovesRow.holds Try.pinned (OpenSpec.ofChange migrateMovesWrong)

/- THE SECOND FORM. 'bulk': how many values and letters a reading holds, each counted each time it is reached (what is shared counts as often as it is met; a slice's spare places count too). A statement '..UptoSaid' is the law's where the arguments, and the package variables that the reading takes, are together of bulk at most 1048576: NARROWER than '..Said'. Prove '..Said' where nothing that the law and all that it calls make is longer than what came in: it says more and counts as full. Else prove '..UptoSaid'. A law counts once. -/
mutual
def uptoBulk {H : Type} : DataW H → Nat
  | .lit (.string bytes) => bytes.length + 1
  | .lit _ => 1
  | .nil => 1
  | .ptr d => uptoBulk d + 1
  | .slice elems spare => uptoBulkAll elems + uptoBulkAll spare + 1
  | .agg parts => uptoBulkAll parts + 1
  | .iface _ d => uptoBulk d + 1
  | .map entries => uptoBulkEntries entries + 1
  | .held _ => 1
def uptoBulkAll {H : Type} : List (DataW H) → Nat
  | [] => 0
  | d :: r => uptoBulk d + uptoBulkAll r
def uptoBulkEntries {H : Type} : List (Lit × DataW H) → Nat
  | [] => 0
  | x :: r => uptoBulkEntry x + uptoBulkEntries r
def uptoBulkEntry {H : Type} : Lit × DataW H → Nat
  | (.string bytes, d) => bytes.length + uptoBulk d + 1
  | (_, d) => uptoBulk d + 1
 end
def uptoSmall : (H : Type) → List (DataW H) → Bool := fun _ ds => decide (uptoBulkAll ds ≤ 1048576)
def OpenSpec.upto (s : _root_.Go.ChangeSpec) : _root_.Go.OpenSpec := { _root_.Go.OpenSpec.ofChange s with cond := some uptoSmall }

/-- 'remontoirlaw38.OpaBest', WHERE WHAT IT READS IS OF BULK AT MOST 1048576: true; the input reads as it did. -/
def opaBestUptoRow : OpenClaim := { program := "ytmkpimdbmjpelaa", sum := "96f454d29dfc8f1557d6583a7289e7978bca98a1105afabc2293e903cfae0ec0", func := "remontoir/remontoirlaw38.OpaBest", spec := "opaBest", unfollowed := true, recurses := true, apart := false, narrowed := true }
def OpaBestUptoSaid : Prop := opaBestUptoRow.holds Try.pinned (OpenSpec.upto opaBestSpec)

/-- 'remontoirlaw29.MigrateMakes', WHERE WHAT IT READS IS OF BULK AT MOST 1048576: true; the input reads as it did. -/
def migrateMakesUptoRow : OpenClaim := { program := "ytmkpimdbmjpelaa", sum := "96f454d29dfc8f1557d6583a7289e7978bca98a1105afabc2293e903cfae0ec0", func := "remontoir/remontoirlaw29.MigrateMakes", spec := "migrateMakes", unfollowed := true, recurses := true, apart := false, narrowed := true }
def MigrateMakesUptoSaid : Prop := migrateMakesUptoRow.holds Try.pinned (OpenSpec.upto migrateMakesSpec)

/-- 'remontoirlaw29.MigrateMoves', WHERE WHAT IT READS IS OF BULK AT MOST 1048576: true; the input reads as it did. -/
def migrateMovesUptoRow : OpenClaim := { program := "ytmkpimdbmjpelaa", sum := "96f454d29dfc8f1557d6583a7289e7978bca98a1105afabc2293e903cfae0ec0", func := "remontoir/remontoirlaw29.MigrateMoves", spec := "migrateMoves", unfollowed := true, recurses := true, apart := false, narrowed := true }
def MigrateMovesUptoSaid : Prop := migrateMovesUptoRow.holds Try.pinned (OpenSpec.upto migrateMovesSpec)

end Rows
end Go.Proofs.Ytmkpimdbmjpelaa
