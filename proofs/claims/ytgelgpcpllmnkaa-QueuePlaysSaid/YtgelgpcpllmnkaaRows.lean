/-
  No cell of these rows narrows 'for every input' (looked for: loops, veiled, ifaces, maps, wideKeys, modest, calm, conditions, laid).
  DERIVED. THE GIVEN ROWS OF THIS SEAT. 11 by the template 'for every input the law returns true; each argument reads behind the call as it read before'; 0 by the template 'total and deterministic' (their statements: YtgelgpcpllmnkaaTotals.lean).
  GIVEN WITH THE SEED: the statements are not yours to turn. If you find one false, say at which input.
  Laid BY PROGRAM, IN A SANDBOX (cutbox-rows.mjs): the forced cells as the released guide's own fill.sh prints them over the translation e1bfd1ebb65c074b… (all of the seat's roots in one cut). By AI agents, Wed Nov 11 2026. No macro, syntax, notation, axiom, sorry.
-/
import Derived.Test.YtgelgpcpllmnkaaChecked
import GoSem.Claim
import GoSem.ClaimJoined
import GoSem.ClaimMapViews
import Derived.JoinedTies
import Derived.KernelRfl
namespace Go.Proofs.Ytgelgpcpllmnkaa
/- THE CELL 'sum', in the pinned program and in every row, IS THE sha256 OF THE DUMP (.gsa) THAT YtgelgpcpllmnkaaProg.lean LOADS. Nothing in Lean hashes anything: it is a label: what it is worth is what the hold of that sum in a sandbox is worth. -/
noncomputable def Try.pinned : Pinned := { name := "ytgelgpcpllmnkaa", sum := "e1bfd1ebb65c074b452dc2b78b0cdb03e874f9afe38484bc86c0ee749914cbaa", checked := Try.checked }
namespace Rows
def none {H : Type} : Left H := { results := [], args := [] }

/-- 'remontoirlaw27.QueueOrder': WHATEVER THE INPUT: true; the input reads as it did. -/
def queueOrderSpec : ChangeSpec := { name := "queueOrder", fn := fun _ => fun
  | [d1, d2] => { results := [.lit (.bool true)], args := [d1, d2] }
  | _ => none }
def queueOrderRow : OpenClaim := { program := "ytgelgpcpllmnkaa", sum := "e1bfd1ebb65c074b452dc2b78b0cdb03e874f9afe38484bc86c0ee749914cbaa", func := "remontoir/remontoirlaw27.QueueOrder", spec := "queueOrder", apart := false }
def QueueOrderSaid : Prop := queueOrderRow.holds Try.pinned (OpenSpec.ofChange queueOrderSpec)

/-- ITS FALSE NEIGHBOUR: 'it returns false'. Refute it at one input. -/
def queueOrderWrong : ChangeSpec := { name := "queueOrder", fn := fun _ => fun
  | [d1, d2] => { results := [.lit (.bool false)], args := [d1, d2] }
  | _ => none }
def QueueOrderWrongFalsely : Prop := queueOrderRow.holds Try.pinned (OpenSpec.ofChange queueOrderWrong)

/-- 'remontoirlaw27.QueuePlays': WHATEVER THE INPUT: true; the input reads as it did. -/
def queuePlaysSpec : ChangeSpec := { name := "queuePlays", fn := fun _ => fun
  | [d1, d2] => { results := [.lit (.bool true)], args := [d1, d2] }
  | _ => none }
def queuePlaysRow : OpenClaim := { program := "ytgelgpcpllmnkaa", sum := "e1bfd1ebb65c074b452dc2b78b0cdb03e874f9afe38484bc86c0ee749914cbaa", func := "remontoir/remontoirlaw27.QueuePlays", spec := "queuePlays", unfollowed := true, recurses := true, apart := false }
def QueuePlaysSaid : Prop := queuePlaysRow.holds Try.pinned (OpenSpec.ofChange queuePlaysSpec)

/-- ITS FALSE NEIGHBOUR: 'it returns false'. Refute it at one input. -/
def queuePlaysWrong : ChangeSpec := { name := "queuePlays", fn := fun _ => fun
  | [d1, d2] => { results := [.lit (.bool false)], args := [d1, d2] }
  | _ => none }
def QueuePlaysWrongFalsely : Prop := queuePlaysRow.holds Try.pinned (OpenSpec.ofChange queuePlaysWrong)

/-- 'remontoirlaw29.MigrateMakes': WHATEVER THE INPUT: true; the input reads as it did. -/
def migrateMakesSpec : ChangeSpec := { name := "migrateMakes", fn := fun _ => fun
  | [d] => { results := [.lit (.bool true)], args := [d] }
  | _ => none }
def migrateMakesRow : OpenClaim := { program := "ytgelgpcpllmnkaa", sum := "e1bfd1ebb65c074b452dc2b78b0cdb03e874f9afe38484bc86c0ee749914cbaa", func := "remontoir/remontoirlaw29.MigrateMakes", spec := "migrateMakes", unfollowed := true, recurses := true, apart := false }
def MigrateMakesSaid : Prop := migrateMakesRow.holds Try.pinned (OpenSpec.ofChange migrateMakesSpec)

/-- ITS FALSE NEIGHBOUR: 'it returns false'. Refute it at one input. -/
def migrateMakesWrong : ChangeSpec := { name := "migrateMakes", fn := fun _ => fun
  | [d] => { results := [.lit (.bool false)], args := [d] }
  | _ => none }
def MigrateMakesWrongFalsely : Prop := migrateMakesRow.holds Try.pinned (OpenSpec.ofChange migrateMakesWrong)

/-- 'remontoirlaw29.MigrateMoves': WHATEVER THE INPUT: true; the input reads as it did. -/
def migrateMovesSpec : ChangeSpec := { name := "migrateMoves", fn := fun _ => fun
  | [d1, d2, d3] => { results := [.lit (.bool true)], args := [d1, d2, d3] }
  | _ => none }
def migrateMovesRow : OpenClaim := { program := "ytgelgpcpllmnkaa", sum := "e1bfd1ebb65c074b452dc2b78b0cdb03e874f9afe38484bc86c0ee749914cbaa", func := "remontoir/remontoirlaw29.MigrateMoves", spec := "migrateMoves", unfollowed := true, recurses := true, apart := false }
def MigrateMovesSaid : Prop := migrateMovesRow.holds Try.pinned (OpenSpec.ofChange migrateMovesSpec)

/-- ITS FALSE NEIGHBOUR: 'it returns false'. Refute it at one input. -/
def migrateMovesWrong : ChangeSpec := { name := "migrateMoves", fn := fun _ => fun
  | [d1, d2, d3] => { results := [.lit (.bool false)], args := [d1, d2, d3] }
  | _ => none }
def MigrateMovesWrongFalsely : Prop := migrateMovesRow.holds Try.pinned (OpenSpec.ofChange migrateMovesWrong)

/-- 'remontoirlaw54.RleSmall': WHATEVER THE INPUT: true; the input reads as it did. -/
def rleSmallSpec : ChangeSpec := { name := "rleSmall", fn := fun _ => fun
  | [d1, d2, d3] => { results := [.lit (.bool true)], args := [d1, d2, d3] }
  | _ => none }
def rleSmallRow : OpenClaim := { program := "ytgelgpcpllmnkaa", sum := "e1bfd1ebb65c074b452dc2b78b0cdb03e874f9afe38484bc86c0ee749914cbaa", func := "remontoir/remontoirlaw54.RleSmall", spec := "rleSmall", unfollowed := true, recurses := true, apart := false }
def RleSmallSaid : Prop := rleSmallRow.holds Try.pinned (OpenSpec.ofChange rleSmallSpec)

/-- ITS FALSE NEIGHBOUR: 'it returns false'. Refute it at one input. -/
def rleSmallWrong : ChangeSpec := { name := "rleSmall", fn := fun _ => fun
  | [d1, d2, d3] => { results := [.lit (.bool false)], args := [d1, d2, d3] }
  | _ => none }
def RleSmallWrongFalsely : Prop := rleSmallRow.holds Try.pinned (OpenSpec.ofChange rleSmallWrong)

/-- 'remontoirlaw54.RlePacks': WHATEVER THE INPUT: true; the input reads as it did. -/
def rlePacksSpec : ChangeSpec := { name := "rlePacks", fn := fun _ => fun
  | [d1, d2] => { results := [.lit (.bool true)], args := [d1, d2] }
  | _ => none }
def rlePacksRow : OpenClaim := { program := "ytgelgpcpllmnkaa", sum := "e1bfd1ebb65c074b452dc2b78b0cdb03e874f9afe38484bc86c0ee749914cbaa", func := "remontoir/remontoirlaw54.RlePacks", spec := "rlePacks", unfollowed := true, recurses := true, apart := false }
def RlePacksSaid : Prop := rlePacksRow.holds Try.pinned (OpenSpec.ofChange rlePacksSpec)

/-- ITS FALSE NEIGHBOUR: 'it returns false'. Refute it at one input. -/
def rlePacksWrong : ChangeSpec := { name := "rlePacks", fn := fun _ => fun
  | [d1, d2] => { results := [.lit (.bool false)], args := [d1, d2] }
  | _ => none }
def RlePacksWrongFalsely : Prop := rlePacksRow.holds Try.pinned (OpenSpec.ofChange rlePacksWrong)

/-- 'remontoirlaw54.RleBack': WHATEVER THE INPUT: true; the input reads as it did. -/
def rleBackSpec : ChangeSpec := { name := "rleBack", fn := fun _ => fun
  | [d1, d2] => { results := [.lit (.bool true)], args := [d1, d2] }
  | _ => none }
def rleBackRow : OpenClaim := { program := "ytgelgpcpllmnkaa", sum := "e1bfd1ebb65c074b452dc2b78b0cdb03e874f9afe38484bc86c0ee749914cbaa", func := "remontoir/remontoirlaw54.RleBack", spec := "rleBack", unfollowed := true, recurses := true, apart := false }
def RleBackSaid : Prop := rleBackRow.holds Try.pinned (OpenSpec.ofChange rleBackSpec)

/-- ITS FALSE NEIGHBOUR: 'it returns false'. Refute it at one input. -/
def rleBackWrong : ChangeSpec := { name := "rleBack", fn := fun _ => fun
  | [d1, d2] => { results := [.lit (.bool false)], args := [d1, d2] }
  | _ => none }
def RleBackWrongFalsely : Prop := rleBackRow.holds Try.pinned (OpenSpec.ofChange rleBackWrong)

/-- 'remontoirlaw55.PatchGreat': WHATEVER THE INPUT: true; the input reads as it did. -/
def patchGreatSpec : ChangeSpec := { name := "patchGreat", fn := fun _ => fun
  | [d1, d2] => { results := [.lit (.bool true)], args := [d1, d2] }
  | _ => none }
def patchGreatRow : OpenClaim := { program := "ytgelgpcpllmnkaa", sum := "e1bfd1ebb65c074b452dc2b78b0cdb03e874f9afe38484bc86c0ee749914cbaa", func := "remontoir/remontoirlaw55.PatchGreat", spec := "patchGreat", apart := false }
def PatchGreatSaid : Prop := patchGreatRow.holds Try.pinned (OpenSpec.ofChange patchGreatSpec)

/-- ITS FALSE NEIGHBOUR: 'it returns false'. Refute it at one input. -/
def patchGreatWrong : ChangeSpec := { name := "patchGreat", fn := fun _ => fun
  | [d1, d2] => { results := [.lit (.bool false)], args := [d1, d2] }
  | _ => none }
def PatchGreatWrongFalsely : Prop := patchGreatRow.holds Try.pinned (OpenSpec.ofChange patchGreatWrong)

/-- 'remontoirlaw55.PatchMakes': WHATEVER THE INPUT: true; the input reads as it did. -/
def patchMakesSpec : ChangeSpec := { name := "patchMakes", fn := fun _ => fun
  | [d1, d2] => { results := [.lit (.bool true)], args := [d1, d2] }
  | _ => none }
def patchMakesRow : OpenClaim := { program := "ytgelgpcpllmnkaa", sum := "e1bfd1ebb65c074b452dc2b78b0cdb03e874f9afe38484bc86c0ee749914cbaa", func := "remontoir/remontoirlaw55.PatchMakes", spec := "patchMakes", apart := false }
def PatchMakesSaid : Prop := patchMakesRow.holds Try.pinned (OpenSpec.ofChange patchMakesSpec)

/-- ITS FALSE NEIGHBOUR: 'it returns false'. Refute it at one input. -/
def patchMakesWrong : ChangeSpec := { name := "patchMakes", fn := fun _ => fun
  | [d1, d2] => { results := [.lit (.bool false)], args := [d1, d2] }
  | _ => none }
def PatchMakesWrongFalsely : Prop := patchMakesRow.holds Try.pinned (OpenSpec.ofChange patchMakesWrong)

/-- 'remontoirlaw55.PatchApplies': WHATEVER THE INPUT: true; the input reads as it did. -/
def patchAppliesSpec : ChangeSpec := { name := "patchApplies", fn := fun _ => fun
  | [d1, d2] => { results := [.lit (.bool true)], args := [d1, d2] }
  | _ => none }
def patchAppliesRow : OpenClaim := { program := "ytgelgpcpllmnkaa", sum := "e1bfd1ebb65c074b452dc2b78b0cdb03e874f9afe38484bc86c0ee749914cbaa", func := "remontoir/remontoirlaw55.PatchApplies", spec := "patchApplies", apart := false }
def PatchAppliesSaid : Prop := patchAppliesRow.holds Try.pinned (OpenSpec.ofChange patchAppliesSpec)

/-- ITS FALSE NEIGHBOUR: 'it returns false'. Refute it at one input. -/
def patchAppliesWrong : ChangeSpec := { name := "patchApplies", fn := fun _ => fun
  | [d1, d2] => { results := [.lit (.bool false)], args := [d1, d2] }
  | _ => none }
def PatchAppliesWrongFalsely : Prop := patchAppliesRow.holds Try.pinned (OpenSpec.ofChange patchAppliesWrong)

/-- 'remontoirlaw55.PatchBack': WHATEVER THE INPUT: true; the input reads as it did. -/
def patchBackSpec : ChangeSpec := { name := "patchBack", fn := fun _ => fun
  | [d1, d2] => { results := [.lit (.bool true)], args := [d1, d2] }
  | _ => none }
def patchBackRow : OpenClaim := { program := "ytgelgpcpllmnkaa", sum := "e1bfd1ebb65c074b452dc2b78b0cdb03e874f9afe38484bc86c0ee749914cbaa", func := "remontoir/remontoirlaw55.PatchBack", spec := "patchBack", apart := false }
def PatchBackSaid : Prop := patchBackRow.holds Try.pinned (OpenSpec.ofChange patchBackSpec)

/-- ITS FALSE NEIGHBOUR: 'it returns false'. Refute it at one input. -/
def patchBackWrong : ChangeSpec := { name := "patchBack", fn := fun _ => fun
  | [d1, d2] => { results := [.lit (.bool false)], args := [d1, d2] }
  | _ => none }
def PatchBackWrongFalsely : Prop := patchBackRow.holds Try.pinned (OpenSpec.ofChange patchBackWrong)

/- THE SECOND FORM. 'bulk': how many values and letters a reading holds, each counted each time it is reached (what is shared counts as often as it is met; a slice's spare places count too). A statement '..UptoSaid' is the law's where the arguments, and the package variables that the reading takes, are together of bulk at most 1048576: NARROWER than '..Said'. Prove '..Said' where nothing that the law and all that it calls make is longer than what came in: it says more and counts as full. Else prove '..UptoSaid'. A law counts once. -/
mutual
def uptoBulk {H : Type} : DataW H → Nat
  | .lit (.string bytes) => bytes.length + 1
  | .lit _ => 1
  | .nil => 1
  | .ptr d => uptoBulk d + 1
  | .slice elems spare => uptoBulkAll elems + uptoBulkAll spare + 1
  | .agg parts => uptoBulkAll parts + 1
  | .iface _ d => uptoBulk d + 1
  | .map entries => uptoBulkEntries entries + 1
  | .held _ => 1
def uptoBulkAll {H : Type} : List (DataW H) → Nat
  | [] => 0
  | d :: r => uptoBulk d + uptoBulkAll r
def uptoBulkEntries {H : Type} : List (Lit × DataW H) → Nat
  | [] => 0
  | x :: r => uptoBulkEntry x + uptoBulkEntries r
def uptoBulkEntry {H : Type} : Lit × DataW H → Nat
  | (.string bytes, d) => bytes.length + uptoBulk d + 1
  | (_, d) => uptoBulk d + 1
 end
def uptoSmall : (H : Type) → List (DataW H) → Bool := fun _ ds => decide (uptoBulkAll ds ≤ 1048576)
def OpenSpec.upto (s : _root_.Go.ChangeSpec) : _root_.Go.OpenSpec := { _root_.Go.OpenSpec.ofChange s with cond := some uptoSmall }

/-- 'remontoirlaw27.QueueOrder', WHERE WHAT IT READS IS OF BULK AT MOST 1048576: true; the input reads as it did. -/
def queueOrderUptoRow : OpenClaim := { program := "ytgelgpcpllmnkaa", sum := "e1bfd1ebb65c074b452dc2b78b0cdb03e874f9afe38484bc86c0ee749914cbaa", func := "remontoir/remontoirlaw27.QueueOrder", spec := "queueOrder", apart := false, narrowed := true }
def QueueOrderUptoSaid : Prop := queueOrderUptoRow.holds Try.pinned (OpenSpec.upto queueOrderSpec)

/-- 'remontoirlaw27.QueuePlays', WHERE WHAT IT READS IS OF BULK AT MOST 1048576: true; the input reads as it did. -/
def queuePlaysUptoRow : OpenClaim := { program := "ytgelgpcpllmnkaa", sum := "e1bfd1ebb65c074b452dc2b78b0cdb03e874f9afe38484bc86c0ee749914cbaa", func := "remontoir/remontoirlaw27.QueuePlays", spec := "queuePlays", unfollowed := true, recurses := true, apart := false, narrowed := true }
def QueuePlaysUptoSaid : Prop := queuePlaysUptoRow.holds Try.pinned (OpenSpec.upto queuePlaysSpec)

/-- 'remontoirlaw29.MigrateMakes', WHERE WHAT IT READS IS OF BULK AT MOST 1048576: true; the input reads as it did. -/
def migrateMakesUptoRow : OpenClaim := { program := "ytgelgpcpllmnkaa", sum := "e1bfd1ebb65c074b452dc2b78b0cdb03e874f9afe38484bc86c0ee749914cbaa", func := "remontoir/remontoirlaw29.MigrateMakes", spec := "migrateMakes", unfollowed := true, recurses := true, apart := false, narrowed := true }
def MigrateMakesUptoSaid : Prop := migrateMakesUptoRow.holds Try.pinned (OpenSpec.upto migrateMakesSpec)

/-- 'remontoirlaw29.MigrateMoves', WHERE WHAT IT READS IS OF BULK AT MOST 1048576: true; the input reads as it did. -/
def migrateMovesUptoRow : OpenClaim := { program := "ytgelgpcpllmnkaa", sum := "e1bfd1ebb65c074b452dc2b78b0cdb03e874f9afe38484bc86c0ee749914cbaa", func := "remontoir/remontoirlaw29.MigrateMoves", spec := "migrateMoves", unfollowed := true, recurses := true, apart := false, narrowed := true }
def MigrateMovesUptoSaid : Prop := migrateMovesUptoRow.holds Try.pinned (OpenSpec.upto migrateMovesSpec)

/-- 'remontoirlaw54.RleSmall', WHERE WHAT IT READS IS OF BULK AT MOST 1048576: true; the input reads as it did. -/
def rleSmallUptoRow : OpenClaim := { program := "ytgelgpcpllmnkaa", sum := "e1bfd1ebb65c074b452dc2b78b0cdb03e874f9afe38484bc86c0ee749914cbaa", func := "remontoir/remontoirlaw54.RleSmall", spec := "rleSmall", unfollowed := true, recurses := true, apart := false, narrowed := true }
def RleSmallUptoSaid : Prop := rleSmallUptoRow.holds Try.pinned (OpenSpec.upto rleSmallSpec)

/-- 'remontoirlaw54.RlePacks', WHERE WHAT IT READS IS OF BULK AT MOST 1048576: true; the input reads as it did. -/
def rlePacksUptoRow : OpenClaim := { program := "ytgelgpcpllmnkaa", sum := "e1bfd1ebb65c074b452dc2b78b0cdb03e874f9afe38484bc86c0ee749914cbaa", func := "remontoir/remontoirlaw54.RlePacks", spec := "rlePacks", unfollowed := true, recurses := true, apart := false, narrowed := true }
def RlePacksUptoSaid : Prop := rlePacksUptoRow.holds Try.pinned (OpenSpec.upto rlePacksSpec)

/-- 'remontoirlaw54.RleBack', WHERE WHAT IT READS IS OF BULK AT MOST 1048576: true; the input reads as it did. -/
def rleBackUptoRow : OpenClaim := { program := "ytgelgpcpllmnkaa", sum := "e1bfd1ebb65c074b452dc2b78b0cdb03e874f9afe38484bc86c0ee749914cbaa", func := "remontoir/remontoirlaw54.RleBack", spec := "rleBack", unfollowed := true, recurses := true, apart := false, narrowed := true }
def RleBackUptoSaid : Prop := rleBackUptoRow.holds Try.pinned (OpenSpec.upto rleBackSpec)

/-- 'remontoirlaw55.PatchGreat', WHERE WHAT IT READS IS OF BULK AT MOST 1048576: true; the input reads as it did. -/
def patchGreatUptoRow : OpenClaim := { program := "ytgelgpcpllmnkaa", sum := "e1bfd1ebb65c074b452dc2b78b0cdb03e874f9afe38484bc86c0ee749914cbaa", func := "remontoir/remontoirlaw55.PatchGreat", spec := "patchGreat", apart := false, narrowed := true }
def PatchGreatUptoSaid : Prop := patchGreatUptoRow.holds Try.pinned (OpenSpec.upto patchGreatSpec)

/-- 'remontoirlaw55.PatchMakes', WHERE WHAT IT READS IS OF BULK AT MOST 1048576: true; the input reads as it did. -/
def patchMakesUptoRow : OpenClaim := { program := "ytgelgpcpllmnkaa", sum := "e1bfd1ebb65c074b452dc2b78b0cdb03e874f9afe38484bc86c0ee749914cbaa", func := "remontoir/remontoirlaw55.PatchMakes", spec := "patchMakes", apart := false, narrowed := true }
def PatchMakesUptoSaid : Prop := patchMakesUptoRow.holds Try.pinned (OpenSpec.upto patchMakesSpec)

/-- 'remontoirlaw55.PatchApplies', WHERE WHAT IT READS IS OF BULK AT MOST 1048576: true; the input reads as it did. -/
def patchAppliesUptoRow : OpenClaim := { program := "ytgelgpcpllmnkaa", sum := "e1bfd1ebb65c074b452dc2b78b0cdb03e874f9afe38484bc86c0ee749914cbaa", func := "remontoir/remontoirlaw55.PatchApplies", spec := "patchApplies", apart := false, narrowed := true }
def PatchAppliesUptoSaid : Prop := patchAppliesUptoRow.holds Try.pinned (OpenSpec.upto patchAppliesSpec)

/-- 'remontoirlaw55.PatchBack', WHERE WHAT IT READS IS OF BULK AT MOST 1048576: true; the input reads as it did. -/
def patchBackUptoRow : OpenClaim := { program := "ytgelgpcpllmnkaa", sum := "e1bfd1ebb65c074b452dc2b78b0cdb03e874f9afe38484bc86c0ee749914cbaa", func := "remontoir/remontoirlaw55.PatchBack", spec := "patchBack", apart := false, narrowed := true }
def PatchBackUptoSaid : Prop := patchBackUptoRow.holds Try.pinned (OpenSpec.upto patchBackSpec)

end Rows
end Go.Proofs.Ytgelgpcpllmnkaa
