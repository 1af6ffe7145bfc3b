/-
  No cell of these rows narrows 'for every input' (looked for: loops, veiled, ifaces, maps, wideKeys, modest, calm, conditions, laid).
  DERIVED. THE GIVEN ROWS OF THIS SEAT. 5 by the template 'for every input the law returns true; each argument reads behind the call as it read before'; 0 by the template 'total and deterministic' (their statements: YtdccpbnknfffaaaTotals.lean).
  GIVEN WITH THE SEED: the statements are not yours to turn. If you find one false, say at which input.
  Laid BY PROGRAM, IN A SANDBOX (cutbox-rows.mjs): the forced cells as the released guide's own fill.sh prints them over the translation e401d048d908f62f… (all of the seat's roots in one cut). By AI agents, Wed Nov 11 2026. No macro, syntax, notation, axiom, sorry.
-/
import Derived.Test.YtdccpbnknfffaaaChecked
import GoSem.Claim
import GoSem.ClaimJoined
import GoSem.ClaimMapViews
import Derived.JoinedTies
import Derived.KernelRfl
namespace Go.Proofs.Ytdccpbnknfffaaa
/- THE CELL 'sum', in the pinned program and in every row, IS THE sha256 OF THE DUMP (.gsa) THAT YtdccpbnknfffaaaProg.lean LOADS. Nothing in Lean hashes anything: it is a label: what it is worth is what the hold of that sum in a sandbox is worth. -/
noncomputable def Try.pinned : Pinned := { name := "ytdccpbnknfffaaa", sum := "e401d048d908f62f6cf9b4f9bcb8d908957ae6e04a09f7f228dfccae6857f62d", checked := Try.checked }
namespace Rows
def none {H : Type} : Left H := { results := [], args := [] }

/-- 'remontoirlaw23.DeltaPlays': WHATEVER THE INPUT: true; the input reads as it did. -/
def deltaPlaysSpec : ChangeSpec := { name := "deltaPlays", fn := fun _ => fun
  | [d] => { results := [.lit (.bool true)], args := [d] }
  | _ => none }
def deltaPlaysRow : OpenClaim := { program := "ytdccpbnknfffaaa", sum := "e401d048d908f62f6cf9b4f9bcb8d908957ae6e04a09f7f228dfccae6857f62d", func := "remontoir/remontoirlaw23.DeltaPlays", spec := "deltaPlays", unfollowed := true, recurses := true, apart := false }
def DeltaPlaysSaid : Prop := deltaPlaysRow.holds Try.pinned (OpenSpec.ofChange deltaPlaysSpec)

/-- ITS FALSE NEIGHBOUR: 'it returns false'. Refute it at one input. -/
def deltaPlaysWrong : ChangeSpec := { name := "deltaPlays", fn := fun _ => fun
  | [d] => { results := [.lit (.bool false)], args := [d] }
  | _ => none }
def DeltaPlaysWrongFalsely : Prop := deltaPlaysRow.holds Try.pinned (OpenSpec.ofChange deltaPlaysWrong)

/-- 'remontoirlaw23.DeltaDue': WHATEVER THE INPUT: true; the input reads as it did. -/
def deltaDueSpec : ChangeSpec := { name := "deltaDue", fn := fun _ => fun
  | [d1, d2, d3] => { results := [.lit (.bool true)], args := [d1, d2, d3] }
  | _ => none }
def deltaDueRow : OpenClaim := { program := "ytdccpbnknfffaaa", sum := "e401d048d908f62f6cf9b4f9bcb8d908957ae6e04a09f7f228dfccae6857f62d", func := "remontoir/remontoirlaw23.DeltaDue", spec := "deltaDue", unfollowed := true, recurses := true, apart := false }
def DeltaDueSaid : Prop := deltaDueRow.holds Try.pinned (OpenSpec.ofChange deltaDueSpec)

/-- ITS FALSE NEIGHBOUR: 'it returns false'. Refute it at one input. -/
def deltaDueWrong : ChangeSpec := { name := "deltaDue", fn := fun _ => fun
  | [d1, d2, d3] => { results := [.lit (.bool false)], args := [d1, d2, d3] }
  | _ => none }
def DeltaDueWrongFalsely : Prop := deltaDueRow.holds Try.pinned (OpenSpec.ofChange deltaDueWrong)

/-- 'remontoirlaw23.DeltaFull': WHATEVER THE INPUT: true; the input reads as it did. -/
def deltaFullSpec : ChangeSpec := { name := "deltaFull", fn := fun _ => fun
  | [d1, d2] => { results := [.lit (.bool true)], args := [d1, d2] }
  | _ => none }
def deltaFullRow : OpenClaim := { program := "ytdccpbnknfffaaa", sum := "e401d048d908f62f6cf9b4f9bcb8d908957ae6e04a09f7f228dfccae6857f62d", func := "remontoir/remontoirlaw23.DeltaFull", spec := "deltaFull", unfollowed := true, recurses := true, apart := false }
def DeltaFullSaid : Prop := deltaFullRow.holds Try.pinned (OpenSpec.ofChange deltaFullSpec)

/-- ITS FALSE NEIGHBOUR: 'it returns false'. Refute it at one input. -/
def deltaFullWrong : ChangeSpec := { name := "deltaFull", fn := fun _ => fun
  | [d1, d2] => { results := [.lit (.bool false)], args := [d1, d2] }
  | _ => none }
def DeltaFullWrongFalsely : Prop := deltaFullRow.holds Try.pinned (OpenSpec.ofChange deltaFullWrong)

/-- 'remontoirlaw48.AlarmGoes': WHATEVER THE INPUT: true; the input reads as it did. -/
def alarmGoesSpec : ChangeSpec := { name := "alarmGoes", fn := fun _ => fun
  | [d1, d2, d3] => { results := [.lit (.bool true)], args := [d1, d2, d3] }
  | _ => none }
def alarmGoesRow : OpenClaim := { program := "ytdccpbnknfffaaa", sum := "e401d048d908f62f6cf9b4f9bcb8d908957ae6e04a09f7f228dfccae6857f62d", func := "remontoir/remontoirlaw48.AlarmGoes", spec := "alarmGoes", unfollowed := true, recurses := true, apart := false }
def AlarmGoesSaid : Prop := alarmGoesRow.holds Try.pinned (OpenSpec.ofChange alarmGoesSpec)

/-- ITS FALSE NEIGHBOUR: 'it returns false'. Refute it at one input. -/
def alarmGoesWrong : ChangeSpec := { name := "alarmGoes", fn := fun _ => fun
  | [d1, d2, d3] => { results := [.lit (.bool false)], args := [d1, d2, d3] }
  | _ => none }
def AlarmGoesWrongFalsely : Prop := alarmGoesRow.holds Try.pinned (OpenSpec.ofChange alarmGoesWrong)

/-- 'remontoirlaw48.AlarmPlays': WHATEVER THE INPUT: true; the input reads as it did. -/
def alarmPlaysSpec : ChangeSpec := { name := "alarmPlays", fn := fun _ => fun
  | [d] => { results := [.lit (.bool true)], args := [d] }
  | _ => none }
def alarmPlaysRow : OpenClaim := { program := "ytdccpbnknfffaaa", sum := "e401d048d908f62f6cf9b4f9bcb8d908957ae6e04a09f7f228dfccae6857f62d", func := "remontoir/remontoirlaw48.AlarmPlays", spec := "alarmPlays", unfollowed := true, recurses := true, apart := false }
def AlarmPlaysSaid : Prop := alarmPlaysRow.holds Try.pinned (OpenSpec.ofChange alarmPlaysSpec)

/-- ITS FALSE NEIGHBOUR: 'it returns false'. Refute it at one input. -/
def alarmPlaysWrong : ChangeSpec := { name := "alarmPlays", fn := fun _ => fun
  | [d] => { results := [.lit (.bool false)], args := [d] }
  | _ => none }
def AlarmPlaysWrongFalsely : Prop := alarmPlaysRow.holds Try.pinned (OpenSpec.ofChange alarmPlaysWrong)

/- THE SECOND FORM. 'bulk': how many values and letters a reading holds, each counted each time it is reached (what is shared counts as often as it is met; a slice's spare places count too). A statement '..UptoSaid' is the law's where the arguments, and the package variables that the reading takes, are together of bulk at most 1048576: NARROWER than '..Said'. Prove '..Said' where nothing that the law and all that it calls make is longer than what came in: it says more and counts as full. Else prove '..UptoSaid'. A law counts once. -/
mutual
def uptoBulk {H : Type} : DataW H → Nat
  | .lit (.string bytes) => bytes.length + 1
  | .lit _ => 1
  | .nil => 1
  | .ptr d => uptoBulk d + 1
  | .slice elems spare => uptoBulkAll elems + uptoBulkAll spare + 1
  | .agg parts => uptoBulkAll parts + 1
  | .iface _ d => uptoBulk d + 1
  | .map entries => uptoBulkEntries entries + 1
  | .held _ => 1
def uptoBulkAll {H : Type} : List (DataW H) → Nat
  | [] => 0
  | d :: r => uptoBulk d + uptoBulkAll r
def uptoBulkEntries {H : Type} : List (Lit × DataW H) → Nat
  | [] => 0
  | x :: r => uptoBulkEntry x + uptoBulkEntries r
def uptoBulkEntry {H : Type} : Lit × DataW H → Nat
  | (.string bytes, d) => bytes.length + uptoBulk d + 1
  | (_, d) => uptoBulk d + 1
 end
def uptoSmall : (H : Type) → List (DataW H) → Bool := fun _ ds => decide (uptoBulkAll ds ≤ 1048576)
def OpenSpec.upto (s : _root_.Go.ChangeSpec) : _root_.Go.OpenSpec := { _root_.Go.OpenSpec.ofChange s with cond := some uptoSmall }

/-- 'remontoirlaw23.DeltaPlays', WHERE WHAT IT READS IS OF BULK AT MOST 1048576: true; the input reads as it did. -/
def deltaPlaysUptoRow : OpenClaim := { program := "ytdccpbnknfffaaa", sum := "e401d048d908f62f6cf9b4f9bcb8d908957ae6e04a09f7f228dfccae6857f62d", func := "remontoir/remontoirlaw23.DeltaPlays", spec := "deltaPlays", unfollowed := true, recurses := true, apart := false, narrowed := true }
def DeltaPlaysUptoSaid : Prop := deltaPlaysUptoRow.holds Try.pinned (OpenSpec.upto deltaPlaysSpec)

/-- 'remontoirlaw23.DeltaDue', WHERE WHAT IT READS IS OF BULK AT MOST 1048576: true; the input reads as it did. -/
def deltaDueUptoRow : OpenClaim := { program := "ytdccpbnknfffaaa", sum := "e401d048d908f62f6cf9b4f9bcb8d908957ae6e04a09f7f228dfccae6857f62d", func := "remontoir/remontoirlaw23.DeltaDue", spec := "deltaDue", unfollowed := true, recurses := true, apart := false, narrowed := true }
def DeltaDueUptoSaid : Prop := deltaDueUptoRow.holds Try.pinned (OpenSpec.upto deltaDueSpec)

/-- 'remontoirlaw23.DeltaFull', WHERE WHAT IT READS IS OF BULK AT MOST 1048576: true; the input reads as it did. -/
def deltaFullUptoRow : OpenClaim := { program := "ytdccpbnknfffaaa", sum := "e401d048d908f62f6cf9b4f9bcb8d908957ae6e04a09f7f228dfccae6857f62d", func := "remontoir/remontoirlaw23.DeltaFull", spec := "deltaFull", unfollowed := true, recurses := true, apart := false, narrowed := true }
def DeltaFullUptoSaid : Prop := deltaFullUptoRow.holds Try.pinned (OpenSpec.upto deltaFullSpec)

/-- 'remontoirlaw48.AlarmGoes', WHERE WHAT IT READS IS OF BULK AT MOST 1048576: true; the input reads as it did. -/
def alarmGoesUptoRow : OpenClaim := { program := "ytdccpbnknfffaaa", sum := "e401d048d908f62f6cf9b4f9bcb8d908957ae6e04a09f7f228dfccae6857f62d", func := "remontoir/remontoirlaw48.AlarmGoes", spec := "alarmGoes", unfollowed := true, recurses := true, apart := false, narrowed := true }
def AlarmGoesUptoSaid : Prop := alarmGoesUptoRow.holds Try.pinned (OpenSpec.upto alarmGoesSpec)

/-- 'remontoirlaw48.AlarmPlays', WHERE WHAT IT READS IS OF BULK AT MOST 1048576: true; the input reads as it did. -/
def alarmPlaysUptoRow : OpenClaim := { program := "ytdccpbnknfffaaa", sum := "e401d048d908f62f6cf9b4f9bcb8d908957ae6e04a09f7f228dfccae6857f62d", func := "remontoir/remontoirlaw48.AlarmPlays", spec := "alarmPlays", unfollowed := true, recurses := true, apart := false, narrowed := true }
def AlarmPlaysUptoSaid : Prop := alarmPlaysUptoRow.holds Try.pinned (OpenSpec.upto alarmPlaysSpec)

end Rows
end Go.Proofs.Ytdccpbnknfffaaa
