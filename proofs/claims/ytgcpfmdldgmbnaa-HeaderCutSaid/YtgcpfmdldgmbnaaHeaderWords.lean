/-
  Contract of the document's layer 7: a header's words, as far as it is.
-/
import Derived.Test.YtgcpfmdldgmbnaaHeaderRead
import Derived.ProofKit
namespace Go.Proofs.Ytgcpfmdldgmbnaa
open Go.RowKit
def wU (x : BitVec 32) : Value := .int .u32 (B x)
/-- Six words, and so many blank ones. -/
def blanksL (s l c : BitVec 32) (k : Nat) : List Value := [wU s, wU (~~~s), wU l, wU (~~~l), wU c, wU (~~~c)] ++ List.replicate k (wU blankW)
theorem blanksL_succ (s l c : BitVec 32) (k : Nat) : blanksL s l c (k + 1) = blanksL s l c k ++ [wU blankW] := by
  unfold blanksL
  rw [List.replicate_succ', List.append_assoc]
/-- A header's words. -/
def wordsL (s l c : BitVec 32) (cm cf : Bool) : List Value :=
  [wU s, wU (~~~s), wU l, wU (~~~l), wU c, wU (~~~c), wU (if cm then commW else blankW), wU (if cm then ~~~commW else blankW), wU (if cf then confW else blankW), wU (if cf then ~~~confW else blankW), wU blankW, wU blankW, wU blankW]
theorem infoU : (Try.prog.info? 22).map (fun i => (i.zero, i.size, i.bytes)) = some (some (.int .u32 0), 1, 4) := by kernel_rfl
/-- What Words answers: a slice of the call's own. -/
def WordsPost (s l c : BitVec 32) (cm cf : Bool) (w : World) (e : Ending) (w' : World) : Prop :=
  ∃ g cap, e = .returned (.slice (some ⟨g, 0, none⟩) 13 cap) ∧ w'.ownsRow w.heap.size 22 1 (.slice (some ⟨g, 0, none⟩) 13 cap) 13 (wordsL s l c cm cf) ∧ Below w.heap.size w w'
set_option maxRecDepth 100000 in
set_option maxHeartbeats 2000000 in
theorem words_any (s l c : BitVec 32) (cm cf : Bool) (w : World) :
    Calls Try.prog 65 #[.int .u32 (B s), .int .u32 (B l), .int .u32 (B c), .bool cm, .bool cf] w fun e w' => WordsPost s l c cm cf w e w' := by
  obtain ⟨i0, hi, hz0, hz1, hz2⟩ := info_parts infoU
  go_enter Try.func65, Try.ntmps65
  go_wp2_with (go_at_call 22; refine (otherRef_any _ _).mono ?_; rintro e w' ⟨rfl, rfl⟩)
  have H6 : (w.alloc (Obj.cells #[.int .u32 (B s), .int .u32 (B (~~~s)), .int .u32 (B l), .int .u32 (B (~~~l)), .int .u32 (B c), .int .u32 (B (~~~c))] 22)).ownsRow w.heap.size 22 1 (.slice (some ⟨w.heap.size, 0, none⟩) 6 6) 6 (blanksL s l c 0) := by
    have := World.ownsRow_lit (base := w.heap.size) (e := 22) (size := 1) w #[.int .u32 (B s), .int .u32 (B (~~~s)), .int .u32 (B l), .int .u32 (B (~~~l)), .int .u32 (B c), .int .u32 (B (~~~c))] 6 (Nat.le_refl _) (by unfold maxLen; omega) (by simp)
    simpa [blanksL, wU] using this
  go_loopw [11, 12] (fun v i wr => ∃ k : Nat, k ≤ 7 ∧ i = .int .i64 (6 + (k : Int)) ∧ wr.ownsRow w.heap.size 22 1 v (6 + k) (blanksL s l c k) ∧ Below w.heap.size w wr) (fun _ i _ => 13 - (intOf i).toNat)
  case atStart => exact ⟨0, by omega, rfl, H6, (Below.refl _ _).alloc (Nat.le_refl _) _⟩
  case round =>
    clear H6
    obtain ⟨k, hk, rfl, hown, hbr⟩ := hrel
    by_cases hlt : k < 7
    · have HS := hid (blanksL_succ s l c k)
      have hown1 := hown.alloc (Obj.cells #[Value.int .u32 4294967295] 22)
      have hbw := hbr.alloc hbr.size (Obj.cells #[Value.int .u32 4294967295] 22)
      have hnews : ∀ (j : Nat) (u : Value), [wU blankW][j]? = some u → (wr.alloc (Obj.cells #[Value.int .u32 4294967295] 22)).cell? ((⟨wr.heap.size, 0, none⟩ : Addr).add j) = some u := fun j u hj => by
        rw [add_off, Nat.zero_add, World.cell?_alloc_at _ _ _ _ rfl]
        rw [show [wU blankW] = [Value.int .u32 4294967295] by rfl] at hj
        simpa using hj
      have hsz := hid hbw.size
      go_wp2_with (at_builtin; refine wpList_append_own _ rfl _ _ 39 rfl w.heap.size 22 i0 (.int .u32 0) 1 4 Try.underlying39 hi hz0 hz1 hz2 rfl (by decide) _ _ _ rfl hown1 ⟨wr.heap.size, 0, none⟩ 1 1 [wU blankW] rfl (by simp) hnews (by simp [Value.oneCell', wU]) (by unfold maxLen; omega) (by omega) hsz.out ?_; intro v' w2 hown2 hgrow _)
      go_roundw
      case rel => exact ⟨k + 1, by omega, by go_num, by rw [HS.out]; exact hown2, hbw.grown hgrow hsz.out fun j hj => (hown1.lt j hj).1⟩
      case measure => simp [intOf]; omega
    · obtain rfl : k = 7 := by omega
      obtain ⟨g, cap, rfl, hg1, hg2, hcap, hcells, hfz⟩ := own_form hown (by omega)
      have d6 : wr.cell? ⟨g, 6, none⟩ = some (.int .u32 4294967295) := (hcells 6 (by omega)).trans rfl
      have d7 : wr.cell? ⟨g, 7, none⟩ = some (.int .u32 4294967295) := (hcells 7 (by omega)).trans rfl
      have d8 : wr.cell? ⟨g, 8, none⟩ = some (.int .u32 4294967295) := (hcells 8 (by omega)).trans rfl
      have d9 : wr.cell? ⟨g, 9, none⟩ = some (.int .u32 4294967295) := (hcells 9 (by omega)).trans rfl
      have z6 := hfz 6
      have z7 := hfz 7
      have z8 := hfz 8
      have z9 := hfz 9
      have HO1 : Hid (∀ W, Calls Try.prog 22 #[.int .u32 1668246893] W fun e w' => e = .returned (.int .u32 (B (~~~commW))) ∧ W = w') := fun W => by
        have := otherRef_any commW W
        rwa [show B commW = 1668246893 by decide] at this
      have HO2 : Hid (∀ W, Calls Try.prog 22 #[.int .u32 1668247142] W fun e w' => e = .returned (.int .u32 (B (~~~confW))) ∧ W = w') := fun W => by
        have := otherRef_any confW W
        rwa [show B confW = 1668247142 by decide] at this
      clear hcells hfz
      have Q0 : wr.ownsRow w.heap.size 22 1 (.slice (some ⟨g, 0, none⟩) 13 cap) 13 (wordsL s l c false false) := hown
      cases cm <;> cases cf
      · go_wp2
        go_ret
        exact ⟨g, cap, rfl, Q0, hbr⟩
      · go_wp2_with fail
        refine (HO2.out _).mono ?_
        rintro e w' ⟨rfl, rfl⟩
        go_wp2
        go_ret
        exact ⟨g, cap, rfl, ((Q0.stored 8 _).1.stored 9 _).1, (hbr.setCell (p := ⟨g, 8, none⟩) hg1 _).setCell (p := ⟨g, 9, none⟩) hg1 _⟩
      · go_wp2_with fail
        refine (HO1.out _).mono ?_
        rintro e w' ⟨rfl, rfl⟩
        go_wp2
        go_ret
        exact ⟨g, cap, rfl, ((Q0.stored 6 _).1.stored 7 _).1, (hbr.setCell (p := ⟨g, 6, none⟩) hg1 _).setCell (p := ⟨g, 7, none⟩) hg1 _⟩
      · go_wp2_with fail
        refine (HO1.out _).mono ?_
        rintro e w' ⟨rfl, rfl⟩
        go_wp2_with fail
        refine (HO2.out _).mono ?_
        rintro e w' ⟨rfl, rfl⟩
        go_wp2
        go_ret
        exact ⟨g, cap, rfl, ((((Q0.stored 6 _).1.stored 7 _).1.stored 8 _).1.stored 9 _).1, (((hbr.setCell (p := ⟨g, 6, none⟩) hg1 _).setCell (p := ⟨g, 7, none⟩) hg1 _).setCell (p := ⟨g, 8, none⟩) hg1 _).setCell (p := ⟨g, 9, none⟩) hg1 _⟩
end Go.Proofs.Ytgcpfmdldgmbnaa
