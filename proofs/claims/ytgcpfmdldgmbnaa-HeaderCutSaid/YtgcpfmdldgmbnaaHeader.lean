/-
  Contracts of layer 7: words of a sector (the document's, and the closures of header.Read).
-/
import Derived.Test.YtgcpfmdldgmbnaaPairIs
import Derived.Test.YtgcpfmdldgmbnaaRow
import Derived.Deep.RegionHeld3
namespace Go.Proofs.Ytgcpfmdldgmbnaa
open Go.RowKit
def blankW : BitVec 32 := 4294967295#32
/-- A sector's words; those that are missing are blank. -/
structure Wds (w : World) (ao : Option Addr) (n : Nat) (h : Nat → BitVec 32) : Prop where
  row : Row w ao n (fun i => .int .u32 (B (h i)))
  rest : ∀ i, n ≤ i → h i = blankW
theorem Wds.below {w w' : World} {ao : Option Addr} {n : Nat} {h : Nat → BitVec 32} (hw : Wds w ao n h) (hb : Below w.heap.size w w') : Wds w' ao n h := ⟨hw.row.below hb, hw.rest⟩
theorem B_blank (x : BitVec 32) : (B x == 4294967295) = (x == blankW) := by
  rw [show (4294967295 : Int) = B blankW by decide]; exact B_inj _ _
theorem refAt_any (ao : Option Addr) (n cap : Nat) (h : Nat → BitVec 32) (i : Nat) (w : World) (hw : Wds w ao n h) (hn : n ≤ 2000) (hi : i ≤ 2000) :
    Calls Try.prog 56 #[.slice ao n cap, .int .i64 i] w fun e w' => e = .returned (.int .u32 (B (h i))) ∧ w = w' := by
  by_cases hlt : i < n
  · obtain ⟨b, o, rfl, hc⟩ := hw.row i hlt
    have hd : decide ((i : Int) < n) = true := by simp; omega
    go_enter Try.func56, Try.ntmps56
    go_wp2
    go_ret
    exact ⟨rfl, rfl⟩
  · have hE := hid (hw.rest i (by omega))
    have hd : decide ((i : Int) < n) = false := by simp; omega
    go_enter Try.func56, Try.ntmps56
    go_wp2
    go_ret
    exact ⟨by rw [hE.out]; rfl, rfl⟩
/-- Do two words belong together? -/
def twoB (h : Nat → BitVec 32) (i : Nat) : Bool := h (i + 1) == ~~~(h i)
section
attribute [local go_sem] B_inj
theorem two07_any (ao : Option Addr) (n cap : Nat) (h : Nat → BitVec 32) (i : Nat) (w : World) (hw : Wds w ao n h) (hn : n ≤ 2000) (hi : i < 2000) :
    Calls Try.prog 74 #[.slice ao n cap, .int .i64 i] w fun e w' => e = .returned (.bool (twoB h i)) ∧ w = w' := by
  have H1 := refAt_any ao n cap h (i + 1) w hw hn (by omega)
  rw [show ((i + 1 : Nat) : Int) = (i : Int) + 1 by omega] at H1
  have H1 := hid H1
  have H0 := hid (refAt_any ao n cap h i w hw hn (by omega))
  have HE : Hid (twoB h i = (h (i + 1) == ~~~(h i))) := rfl
  generalize h (i + 1) = x at H1 HE
  generalize h i = y at H0 HE
  go_enter Try.func74, Try.ntmps74
  go_wp2_with fail
  refine H1.out.mono ?_
  rintro e w' ⟨rfl, rfl⟩
  go_wp2_with fail
  refine H0.out.mono ?_
  rintro e w' ⟨rfl, rfl⟩
  go_wp2_with (go_at_call 22; refine (otherRef_any _ _).mono ?_; rintro e w' ⟨rfl, rfl⟩)
  go_ret
  exact ⟨by rw [HE.out]; rfl, rfl⟩
end
/-- The closures of header.Read: a word. -/
theorem at72_any (ao : Option Addr) (n cap : Nat) (h : Nat → BitVec 32) (z : Int) (bl : Nat) (w : World) (hw : Wds w ao n h) (hl : w.cell? ⟨bl, 0, none⟩ = some (.slice ao n cap)) (h0 : 0 ≤ z) :
    Calls Try.prog 72 #[.int .i64 z, .pointer (some ⟨bl, 0, none⟩)] w fun e w' => e = .returned (.int .u32 (B (h z.toNat))) ∧ w = w' := by
  obtain ⟨i, rfl⟩ : ∃ i : Nat, z = i := ⟨z.toNat, by omega⟩
  rw [Int.toNat_natCast]
  by_cases hlt : i < n
  · obtain ⟨b, o, rfl, hc⟩ := hw.row i hlt
    have hd : decide ((i : Int) < n) = true := by simp; omega
    go_enter Try.func72, Try.ntmps72
    go_wp2
    go_ret
    exact ⟨rfl, rfl⟩
  · have hE := hid (hw.rest i (by omega))
    have hd : decide ((i : Int) < n) = false := by simp; omega
    go_enter Try.func72, Try.ntmps72
    go_wp2
    go_ret
    exact ⟨by rw [hE.out]; rfl, rfl⟩
/-- The closure 'at' as a value. -/
@[go_sem] def atV (bl : Nat) : Value := .func (.func 72) #[] #[.pointer (some ⟨bl, 0, none⟩)]
theorem two73_any (ao : Option Addr) (n cap : Nat) (h : Nat → BitVec 32) (z : Int) (bl ba : Nat) (w : World) (hw : Wds w ao n h) (hl : w.cell? ⟨bl, 0, none⟩ = some (.slice ao n cap)) (ha : w.cell? ⟨ba, 0, none⟩ = some (atV bl)) (h0 : 0 ≤ z) (h1 : z ≤ 2000) :
    Calls Try.prog 73 #[.int .i64 z, .pointer (some ⟨ba, 0, none⟩)] w fun e w' => e = .returned (.agg #[.int .u32 (B (h z.toNat)), .int .u32 (B (h (z + 1).toNat))]) ∧ Below w.heap.size w w' := by
  have hba := cell_lt ha
  have HB : Below w.heap.size w (w.alloc (Obj.cells #[Value.int .u32 0, Value.int .u32 0] 24)).drew := ((Below.refl _ _).alloc (Nat.le_refl _) _).drew
  have ha2 : (w.alloc (Obj.cells #[Value.int .u32 0, Value.int .u32 0] 24)).drew.cell? ⟨ba, 0, none⟩ = some (atV bl) := (HB.cell hba).trans ha
  have HC : Hid (∀ y : Int, 0 ≤ y → Calls Try.prog 72 #[.int .i64 y, .pointer (some ⟨bl, 0, none⟩)] (w.alloc (Obj.cells #[Value.int .u32 0, Value.int .u32 0] 24)).drew fun e w' => e = .returned (.int .u32 (B (h y.toNat))) ∧ (w.alloc (Obj.cells #[Value.int .u32 0, Value.int .u32 0] 24)).drew = w') := fun y h0 =>
    at72_any ao n cap h y bl _ (hw.below HB) ((HB.cell (cell_lt hl)).trans hl) h0
  have hz : IntKind.i64.wrap (z + 1) = z + 1 := IntWalk.i64_in _ ⟨by omega, by omega⟩
  clear hw hl
  go_enter Try.func73, Try.ntmps73
  go_wp2_with fail
  go_region_held3 (fun w' => w'.cell? ⟨ba, 0, none⟩ = some (atV bl)) (go_keep) (first | (go_at_call 72; refine (HC.out _ (by omega)).mono ?_; rintro e w' ⟨rfl, rfl⟩))
  all_goals
    go_wp2
    exact bodyPost_ret (v := .agg #[.int .u32 (B (h z.toNat)), .int .u32 (B (h (z + 1).toNat))]) (by simp [results, Try.results73, go_sem]) rfl ⟨rfl, ((Below.refl _ _).alloc (Nat.le_refl _) _).drew⟩
end Go.Proofs.Ytgcpfmdldgmbnaa
